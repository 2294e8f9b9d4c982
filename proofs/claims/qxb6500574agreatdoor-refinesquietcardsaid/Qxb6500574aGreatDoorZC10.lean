/-
  THE WALKS of compm: enter.
-/
import Derived.Test.Qxb6500574aGreatDoorZC9
namespace Go.Proofs.Qxb6500574aGreatDoor
open Go Go.RowKit
set_option linter.unusedVariables false
set_option linter.unusedSimpArgs false
/-- arguments in memory -/
def ArgS (W : World) (A1 : RnP) (av : Value) (args : List Vl) : Prop :=
  (av = .slice none 0 0 ∧ args = []) ∨ ∃ ab cs o cap T, LcB W A1 ab cs T ∧ av = .slice (some ⟨ab, o, none⟩) args.length cap ∧ args.length ≤ cap ∧ ∀ (i : Nat) (v : Vl), args[i]? = some v → cs[o + i * 3]? = some (.int .i64 v.t) ∧ cs[o + i * 3 + 1]? = some (.int .u64 v.n) ∧ cs[o + i * 3 + 2]? = some (sv v.s)
section
variable {w W W1 : World} {A A1 A2 : RnP} {N : List Nd} {root : Nat} {M : MD}
theorem ArgS.st {av : Value} {args : List Vl} (h : ArgS W A1 av args) (s : MSt W A1 W1 A2) : ArgS W1 A2 av args := by
  rcases h with h | ⟨ab, cs, o, cap, T, h1, h2⟩
  · exact .inl h
  · exact .inr ⟨ab, cs, o, cap, T, h1.st s, h2⟩
theorem RefOk.upT {m : MD} (h : RefOk m) (hc : m.cur < m.ths.length) {f : MTh → MTh} (hf : ∀ k ∈ (f m.th).tasks, ∀ i, k.e = some i → i < m.envs.length) : RefOk (m.upT f) :=
  ⟨fun T hT k hk i hi => by
    have hT : T ∈ m.ths.set m.cur (f m.th) := hT
    rcases List.mem_or_eq_of_mem_set hT with z | z
    · exact h.t T z k hk i hi
    · rw [z] at hk; exact hf k hk i hi, h.c, h.u⟩
theorem RefOk.th {m : MD} (h : RefOk m) (hc : m.cur < m.ths.length) : ∀ k ∈ m.th.tasks, ∀ i, k.e = some i → i < m.envs.length := h.t m.th (List.mem_of_getElem? (th_cur hc))
theorem RefOk.todo {m : MD} (h : RefOk m) (hc : m.cur < m.ths.length) {l : List TkD} (hl : ∀ k ∈ l, ∀ i, k.e = some i → i < m.envs.length) : RefOk (m.todo l) := h.upT hc (fun k hk => by
  rcases List.mem_append.1 hk with z | z
  · exact hl k z
  · exact h.th hc k z)
theorem RefOk.env {m : MD} (h : RefOk m) {e : EnD} (hu : ∀ j, e.up = some j → j < m.envs.length) : RefOk { m with envs := m.envs ++ [e] } := by
  refine ⟨fun T hT k hk i hi => ?_, fun q hq i hi => ?_, fun i d hd j hj => ?_⟩
  · have := h.t T hT k hk i hi
    show i < (m.envs ++ [e]).length
    rw [List.length_append]; omega
  · have := h.c q hq i hi
    show i < (m.envs ++ [e]).length
    rw [List.length_append]; omega
  · have hd : (m.envs ++ [e])[i]? = some d := hd
    by_cases hi : i < m.envs.length
    · rw [List.getElem?_append_left hi] at hd
      exact h.u i d hd j hj
    · have hi2 : i = m.envs.length := by
        have := (List.getElem?_eq_some_iff.1 hd).1
        simp at this
        omega
      rw [hi2, List.getElem?_append_right (Nat.le_refl _)] at hd
      simp at hd
      rw [← hd] at hj
      rw [hi2]
      exact hu j hj
theorem RB.newEnv (B : RB w A N root W A1 M) (r : RefOk M) (e : EnD) (hu : ∀ j, e.up = some j → j < M.envs.length) :
    ∃ A2, RB w A N root (W.alloc (.cells (enV A1.E e) 222)) A2 { M with envs := M.envs ++ [e] } ∧ MSt W A1 (W.alloc (.cells (enV A1.E e) 222)) A2 ∧ eAd A2.E (some M.envs.length) = some ⟨W.heap.size, 0, none⟩ := by
  obtain ⟨h1, h2⟩ := B.r.newEnv r e hu
  refine ⟨_, ⟨h1, B.s.trans h2, B.c⟩, h2, ?_⟩
  unfold eAd
  simp [List.getD_eq_getElem?_getD, ← B.r.le]
theorem enter_eq {M : MD} (hc : M.cur < M.ths.length) {c : Nat} {q : Nat × Option Nat} (hgd : M.clos.getD c (0, none) = q) (N : List Nd) (root : Nat) (args : List Vl) (prot : Nat) :
    M.enter N root c args prot = ({ (M.upT fun t => { t with depth := t.depth + 1 }).todo [⟨3, prot, M.th.vals.length, none⟩] with envs := (bindA N 4 (N.getD q.1 nd0).a args M.envs q.2).1 } : MD).todo [⟨1, if q.1 = 0 then root else (N.getD q.1 nd0).b, 0, (bindA N 4 (N.getD q.1 nd0).a args M.envs q.2).2⟩] := by
  have h1 : (M.upT fun t => { t with depth := t.depth + 1 }).todo [⟨3, prot, M.th.vals.length, none⟩] = M.upT (fun t => { t with depth := t.depth + 1, tasks := ⟨3, prot, M.th.vals.length, none⟩ :: t.tasks }) := upT_upT hc _ _
  rw [h1]
  have h2 : ∀ (X : MD) (E : List EnD) (f : MTh → MTh), ({ X with envs := E } : MD).upT f = { X.upT f with envs := E } := fun _ _ _ => rfl
  unfold MD.enter
  rw [hgd]
  unfold MD.todo
  rw [h2, upT_upT hc]
  rfl
/-- the parameters: so many are bound -/
def EnI (w : World) (A : RnP) (N : List Nd) (root : Nat) (W : World) (A1 : RnP) (M1 : MD) (args : List Vl) (av : Value) (R : List EnD × Option Nat) (k : Nat) (v9 v12 v13 : Value) (wr : World) : Prop :=
  ∃ (A3 : RnP) (E' : List EnD) (e' : Option Nat) (p : Nat) (l : List Nat) (i : Nat), v9 = .pointer (eAd A3.E e') ∧ v12 = .int .i64 i ∧ v13 = .int .i64 (p : Nat) ∧ RB w A N root wr A3 { M1 with envs := E' } ∧ MSt W A1 wr A3 ∧ RefOk { M1 with envs := E' } ∧ (∀ j, e' = some j → j < E'.length) ∧ bindA N k p (args.drop i) E' e' = R ∧ Chain N p l ∧ l.length < k ∧ p < N.length ∧ i + k = 4 ∧ ArgS wr A3 av args
set_option maxRecDepth 100000
set_option maxHeartbeats 1000000
theorem enter_m (B : RB w A N root W A1 M) (r : RefOk M) (hl : M.th.tasks.length ≤ 999990) (hd : M.th.depth ≤ 1000) (hv : M.th.vals.length ≤ 1000000) {c : Nat} {q : Nat × Option Nat} (hq : M.clos[c]? = some q) (hq1 : q.1 < N.length) (hc24 : M.clos.length ≤ 1000)
    (hch : ∃ l, Chain N (N.getD q.1 nd0).a l ∧ l.length ≤ 3) (hda : (N.getD q.1 nd0).a < N.length) (hnx : ∀ n, n < N.length → (N.getD n nd0).next = 0 ∨ (N.getD n nd0).next < N.length) (hN : N.length ≤ 1000)
    (args : List Vl) (av : Value) (ha : ArgS W A1 av args) (h3 : args.length ≤ 3) (prot : Nat) {c' p' : Int} (hc' : c' = c) (hp' : p' = prot) :
    Calls Tryz.prog 76 #[.pointer (some ⟨A.br, 0, none⟩), .int .i64 c', av, .int .i64 p'] W (RBQ w A N root W A1 (M.enter N root c args prot)) := by
  subst hc' hp'
  obtain ⟨Q, HQ⟩ : ∃ Q : Ending → World → Prop, Hid (RBQ w A N root W A1 (M.enter N root c args prot) = Q) := ⟨_, rfl⟩
  rw [HQ.out]
  -- the depth
  obtain ⟨gt, x, hx, ht, ⟨c5, c12, cg, l1, l2, l3, lc, cl, t5⟩, O⟩ := B.r.cur B.c
  rw [B.s.br] at c5 c12 l1
  have d2 := O.b.has.cell 2
  have d4 := O.b.has.cell 4
  simp only [thV, List.getElem?_toArray, List.getElem?_cons_succ, List.getElem?_cons_zero, Sl.v] at d2 d4
  have f2 := O.b.has.frozen 2
  obtain ⟨A2, s1, s2, _⟩ := B.r.setDp ht hx (M.th.depth + 1)
  have B2 : RB w A N root (W.setCell ⟨x.b, 2, none⟩ (.int .i64 (M.th.depth + 1 : Nat))).drew A2 (M.upT fun t => { t with depth := t.depth + 1 }) := ⟨s1.drew, (B.s.trans s2).drew, by rw [upT_len]; exact B.c⟩
  have C1 := B2.todo (by rw [upT_th B.c]; show M.th.tasks.length ≤ _; omega) 3 prot M.th.vals.length none (fun i hi => by cases hi) (k' := 3) rfl rfl rfl
  rw [show eAd A.E none = none from rfl] at C1
  have HC1 := hid C1
  have HS2 := hid s2.drew
  have HA2 := hid ((ha.st s2.drew))
  have HR2 : Hid (RefOk ((M.upT fun t => { t with depth := t.depth + 1 }).todo [⟨3, prot, M.th.vals.length, none⟩])) := (r.upT B.c (f := fun t => { t with depth := t.depth + 1 }) (r.th B.c)).todo (by rw [upT_len]; exact B.c) (fun k hk i hi => by
    have : k = ⟨3, prot, M.th.vals.length, none⟩ := by simpa using hk
    rw [this] at hi
    cases hi)
  have HQ2 := hid hq
  have HCH := hid hch
  have HDA := hid hda
  have HNX := hid hnx
  have HQE : Hid (∀ i, q.2 = some i → i < M.envs.length) := r.c q (List.mem_of_getElem? hq)
  have HBC := hid B.c
  have HTL := hid hl
  have HQ1 := hid hq1
  have hcl := (List.getElem?_eq_some_iff.1 hq).1
  obtain ⟨M1, HM1⟩ : ∃ M1, Hid ((M.upT fun t => { t with depth := t.depth + 1 }).todo [⟨3, prot, M.th.vals.length, none⟩] = M1) := ⟨_, rfl⟩
  rw [HM1.out] at HC1 HR2
  have HMC : Hid (M1.clos = M.clos ∧ M1.envs = M.envs ∧ M1.th.tasks.length = M.th.tasks.length + 1 ∧ M1.cur < M1.ths.length) := by
    rw [← HM1.out]
    refine ⟨rfl, rfl, ?_, c_todo (by rw [upT_len]; exact B.c) _⟩
    rw [th_todo (by rw [upT_len]; exact B.c), upT_th B.c]
    simp
  have HEN : Hid (M.enter N root c args prot = ({ M1 with envs := (bindA N 4 (N.getD q.1 nd0).a args M.envs q.2).1 } : MD).todo [⟨1, if q.1 = 0 then root else (N.getD q.1 nd0).b, 0, (bindA N 4 (N.getD q.1 nd0).a args M.envs q.2).2⟩]) := by
    show _ = _
    have hgd : M.clos.getD c (0, none) = q := by rw [List.getD_eq_getElem?_getD, hq]; rfl
    rw [← HM1.out]
    exact enter_eq B.c hgd N root args prot
  clear C1 B2 s1 s2 O B r ht hx ha hq hch hda hnx hq1 hl
  obtain ⟨M4, HM4⟩ : ∃ M4 : Nat, Hid (M.th.vals.length = M4) := ⟨_, rfl⟩
  rw [HM4.out] at d4 hv HC1
  obtain ⟨LT, HLT⟩ : ∃ LT : Nat, Hid (M.ths.length = LT) := ⟨_, rfl⟩
  obtain ⟨cu, HCU⟩ : ∃ cu : Nat, Hid (M.cur = cu) := ⟨_, rfl⟩
  obtain ⟨dp, HDP⟩ : ∃ dp : Nat, Hid (M.th.depth = dp) := ⟨_, rfl⟩
  rw [HLT.out] at c5 lc cl t5
  rw [HCU.out] at c12 cg cl
  rw [HDP.out] at d2 hd HC1 HS2 HA2
  have edp : ((dp + 1 : Nat) : Int) = (dp : Int) + 1 := by omega
  rw [edp] at HC1 HS2 HA2
  go_enter Tryz.func76, Tryz.ntmps76
  go_wp2
  refine wp_region_tail 10 (by kernel_rfl) (by kernel_rfl) (fun _ _ _ _ _ h => h) ?_
  simp only [List.take_succ_cons, List.take_zero, List.drop_succ_cons, List.drop_zero]
  repeat go_big_quiet_step (fail)
  refine wpQuiet_nil ?_
  go_wp2_with fail
  refine HC1.out.mono ?_
  rintro e1 w2 ⟨rfl, A3, B3, S3⟩
  obtain ⟨hm1, hm2, hm3, hm4⟩ := HMC.out
  -- the closure
  obtain ⟨gq, ga, gc, _, gl, gx, _⟩ := B3.r.clo.cells (show 0 < M1.clos.length by rw [hm1]; omega)
  have hq3 : M1.clos[c]? = some q := by rw [hm1]; exact HQ2.out
  have q0 := (gx (c * 2 + 0) (by rw [hm1]; omega)).trans (flatMap_at _ 2 (coV_len A3.E) _ c 0 _ hq3 (by omega))
  have q1 := (gx (c * 2 + 1) (by rw [hm1]; omega)).trans (flatMap_at _ 2 (coV_len A3.E) _ c 1 _ hq3 (by omega))
  simp only [coV, List.getElem?_cons_zero, List.getElem?_cons_succ, Nat.add_zero] at q0 q1
  have c4 : w2.cell? ⟨A3.br, 4, none⟩ = some (.slice (some ⟨gq, 0, none⟩) M1.clos.length A3.cl.c) := by rw [B3.r.run.has.cell]; simp [rnV, ga]
  have c3 : w2.cell? ⟨A3.br, 3, none⟩ = some (.int .i64 root) := B3.r.rc 3 rfl
  rw [B3.s.br] at c4 c3
  rw [hm1] at c4 gc
  -- its node
  obtain ⟨g, cN, D⟩ := B3.nd HQ1.out
  obtain ⟨n2, lcN, lb, lg, ln, n0, n1, nb, n3, n4, n5, n6, n7⟩ := D
  have hI0 : EnI w A N root W A1 M1 args av (bindA N 4 (N.getD q.1 nd0).a args M.envs q.2) 4 (.pointer (eAd A3.E q.2)) (.int .i64 0) (.int .i64 ((N.getD q.1 nd0).a : Nat)) w2 := by
    obtain ⟨l, hl1, hl2⟩ := HCH.out
    exact ⟨A3, M.envs, q.2, _, l, 0, rfl, rfl, rfl, by rw [← hm2]; exact B3, HS2.out.trans S3, by rw [← hm2]; exact HR2.out, HQE.out, by rw [List.drop_zero], hl1, by omega, HDA.out, rfl, HA2.out.st S3⟩
  have HI0 := hid hI0
  have lA := B3.r.run.has.lt
  rw [B3.s.br] at lA
  clear B3 S3 hI0 gx n0 n3 n4 n5 n6 n7 ga HC1 HS2 HA2 d2 d4 f2 c5 c12 cg l1 l2 l3
  obtain ⟨NL, HLL⟩ : ∃ NL : Nat, Hid (N.length = NL) := ⟨_, rfl⟩
  rw [HLL.out] at n2 lcN ln hN
  obtain ⟨R, HR⟩ : ∃ R, Hid (bindA N 4 (N.getD q.1 nd0).a args M.envs q.2 = R) := ⟨_, rfl⟩
  rw [HR.out] at HI0 HEN
  obtain ⟨qn, qe⟩ := q
  dsimp only at *
  obtain ⟨pa, HPA⟩ : ∃ pa : Nat, Hid ((N.getD qn nd0).a = pa) := ⟨_, rfl⟩
  obtain ⟨pb, HPB⟩ : ∃ pb : Nat, Hid ((N.getD qn nd0).b = pb) := ⟨_, rfl⟩
  rw [HPA.out] at n1 HI0
  rw [HPB.out] at nb HEN
  obtain ⟨ea, HEA⟩ : ∃ ea, Hid (eAd A3.E qe = ea) := ⟨_, rfl⟩
  have q1' : w2.cell? ⟨gq, c * 2 + 1, none⟩ = some (.pointer ea) := by rw [q1, ← HEA.out]
  rw [HEA.out] at HI0
  clear q1
  obtain ⟨CL, HCL⟩ : ∃ CL : Nat, Hid (M.clos.length = CL) := ⟨_, rfl⟩
  rw [HCL.out] at c4 gc hc24 hcl
  by_cases hq0 : qn = 0
  · subst hq0
    rw [if_pos rfl] at HEN
    clear HMC
    go_wp2_with fail
    go_loopg [9, 12, 13] 4 (fun k v9 v12 v13 wr => Hid (EnI w A N root W A1 M1 args av R k v9 v12 v13 wr))
    case atStart => exact HI0
    case round =>
      obtain ⟨A4, E', e', p, l, i, rfl, rfl, rfl, B4, S4, r4, he', hbA, hch, hlk, hpN, hik, ha4⟩ := hrel.out
      by_cases hp0 : p = 0
      · subst hp0
        have hRv : R = (E', e') := by
          rw [← hbA]
          cases gk with
          | zero => omega
          | succ k => unfold bindA; rw [if_pos rfl]
        have C4 := do_m B4.r B4.c (by show M1.th.tasks.length ≤ 1000000; rw [hm3]; have := HTL.out; omega) 1 root 0 e' (k' := 1) (y' := 0) rfl rfl rfl (ev := .pointer (eAd A4.E e')) rfl
        rw [B4.s.br] at C4
        have HC4 := hid C4
        have HB4 := hid B4
        have HS4 := hid S4
        have HRV := hid hRv
        clear C4 B4 S4 r4 he' hbA hch hlk hpN ha4 hRv hrel
        go_wp2_with fail
        refine HC4.out.mono ?_
        intro e14 w5 hq5
        obtain ⟨rfl, A5, B5, S5⟩ := HB4.out.of (c_todo HB4.out.c _) hq5
        have FIN : Hid (Q (.returned (.tuple #[])) w5) := by
          show Q _ _
          rw [← HQ.out, HEN.out, HRV.out]
          exact ⟨rfl, A5, B5, HS4.out.trans S5⟩
        clear B5 S5 hq5
        go_wp2
        go_end0
        exact FIN.out
      · cases l with
        | nil => exact absurd hch hp0
        | cons p9 l' =>
          obtain ⟨rfl, hch2⟩ : p = p9 ∧ p ≠ 0 ∧ Chain N (N.getD p nd0).next l' := by obtain ⟨z1, z2, z3⟩ := hch; subst z1; exact ⟨rfl, z2, z3⟩
          obtain ⟨k', rfl⟩ : ∃ k', gk = k' + 1 := ⟨gk - 1, by simp at hlk; omega⟩
          obtain ⟨g9, c9, D9⟩ := B4.nd hpN
          obtain ⟨e1, e2, e3, e4, e5, e6, e7, e8, e9, e10, e11, e12, e13⟩ := D9
          rw [HLL.out] at e1 e2 e5
          have bp : ((p : Int) != 0) = true := by rw [bne_iff_ne]; omega
          have hi3 : i ≤ 3 := by omega
          clear e6 e7 e8 e9 e11 e13
          by_cases hia : i < args.length
          · obtain ⟨⟨vt, vn, vs⟩, hvi⟩ : ∃ v, args[i]? = some v := ⟨args[i]'hia, by simp⟩
            have hhd : (args.drop i).headD nilV = ⟨vt, vn, vs⟩ := by
              rw [List.headD_eq_head?_getD, List.head?_drop, hvi]
              rfl
            rcases ha4 with ⟨_, z⟩ | ⟨ab, cs, o, cap, T, L4, hav, hcap, hcs⟩
            · rw [z] at hia; simp at hia
            · obtain ⟨v0, v1, v2⟩ := hcs i _ hvi
              have y0 : wr.cell? ⟨ab, o + i * 3, none⟩ = _ := (L4.h.cell _).trans v0
              have y1 : wr.cell? ⟨ab, o + i * 3 + 1, none⟩ = _ := (L4.h.cell _).trans v1
              have y2 : wr.cell? ⟨ab, o + i * 3 + 2, none⟩ = _ := (L4.h.cell _).trans v2
              dsimp only at y0 y1 y2
              have ly := L4.h.lt
              have ha4 : ArgS wr A4 av args := .inr ⟨ab, cs, o, cap, T, L4, hav, hcap, hcs⟩
              have hial : (i : Int) < (args.length : Int) := by omega
              obtain ⟨A5, B5, S5, hE5⟩ := B4.newEnv r4 ⟨(N.getD p nd0).s, ⟨vt, vn, vs⟩, e'⟩ he'
              have r5 := r4.env (e := ⟨(N.getD p nd0).s, ⟨vt, vn, vs⟩, e'⟩) he'
              have hE6 : eAd A5.E (some E'.length) = some ⟨wr.heap.size, 0, none⟩ := hE5
              have hI5 : EnI w A N root W A1 M1 args av R k' (.pointer (some ⟨wr.heap.size, 0, none⟩)) (.int .i64 ((i : Int) + 1)) (.int .i64 ((N.getD p nd0).next : Nat)) (wr.alloc (.cells (enV A4.E ⟨(N.getD p nd0).s, ⟨vt, vn, vs⟩, e'⟩) 222)) := by
                refine ⟨A5, E' ++ [⟨(N.getD p nd0).s, ⟨vt, vn, vs⟩, e'⟩], some E'.length, (N.getD p nd0).next, l', i + 1, by rw [hE6], by simp, rfl, B5, S4.trans S5, r5, fun j hj => by cases hj; simp, ?_, hch.2.2, by simp at hlk; omega, ?_, by omega, ha4.st S5⟩
                · rw [← hbA]
                  conv => rhs; unfold bindA
                  rw [if_neg hp0]
                  congr 1
                  · rw [List.tail_drop]
                  · rw [hhd]
                · rcases HNX.out p hpN with z | z
                  · rw [z]; omega
                  · exact z
              have HI5 : Hid (EnI w A N root W A1 M1 args av R k' (.pointer (some ⟨wr.heap.size, 0, none⟩)) (.int .i64 ((i : Int) + 1)) (.int .i64 ((N.getD p nd0).next : Nat)) (wr.alloc (.cells #[sv (N.getD p nd0).s, .int .i64 (vt : Int), .int .u64 (vn : Nat), sv vs, .pointer (eAd A4.E e')] 222))) := hI5

              have HAV := hid hav
              clear B4 B5 S4 S5 r4 r5 he' hbA hch hch2 hlk hpN ha4 hcs L4 hrel hE5 hE6 hI5 hav hhd hvi v0 v1 v2
              rw [HAV.out]
              obtain ⟨AL, HAL⟩ : ∃ AL : Nat, Hid (args.length = AL) := ⟨_, rfl⟩
              rw [HAL.out] at hia hcap h3 hial ⊢
              obtain ⟨ep, HEP⟩ : ∃ ep, Hid (eAd A4.E e' = ep) := ⟨_, rfl⟩
              rw [HEP.out] at HI5 ⊢
              obtain ⟨nx, HNXT⟩ : ∃ nx : Nat, Hid ((N.getD p nd0).next = nx) := ⟨_, rfl⟩
              obtain ⟨nm, HNM⟩ : ∃ nm, Hid ((N.getD p nd0).s = nm) := ⟨_, rfl⟩
              rw [HNXT.out] at e10 HI5
              rw [HNM.out] at e12 HI5
              go_wp2_with fail
              rw [← HAL.out, ← HAV.out]
              go_roundg k'
              case measure => omega
              case rel => exact HI5
          · have hhd : (args.drop i).headD nilV = ⟨0, 0, []⟩ := by
              rw [List.drop_eq_nil_of_le (by omega)]
              rfl
            have hav : ∃ p9 cap, av = .slice p9 args.length cap := by
              rcases ha4 with ⟨z1, z2⟩ | ⟨ab, cs, o, cap, T, L4, hav, hcap, hcs⟩
              · exact ⟨none, 0, by rw [z1, z2]; rfl⟩
              · exact ⟨_, _, hav⟩
            obtain ⟨p9, cap, hav⟩ := hav
            have hial : ((i : Int) < (args.length : Int)) = False := by simp; omega
            obtain ⟨A5, B5, S5, hE5⟩ := B4.newEnv r4 ⟨(N.getD p nd0).s, ⟨0, 0, []⟩, e'⟩ he'
            have r5 := r4.env (e := ⟨(N.getD p nd0).s, ⟨0, 0, []⟩, e'⟩) he'
            have hE6 : eAd A5.E (some E'.length) = some ⟨wr.heap.size, 0, none⟩ := hE5
            have hI5 : EnI w A N root W A1 M1 args av R k' (.pointer (some ⟨wr.heap.size, 0, none⟩)) (.int .i64 ((i : Int) + 1)) (.int .i64 ((N.getD p nd0).next : Nat)) (wr.alloc (.cells (enV A4.E ⟨(N.getD p nd0).s, ⟨0, 0, []⟩, e'⟩) 222)) := by
              refine ⟨A5, E' ++ [⟨(N.getD p nd0).s, ⟨0, 0, []⟩, e'⟩], some E'.length, (N.getD p nd0).next, l', i + 1, by rw [hE6], by simp, rfl, B5, S4.trans S5, r5, fun j hj => by cases hj; simp, ?_, hch.2.2, by simp at hlk; omega, ?_, by omega, ha4.st S5⟩
              · rw [← hbA]
                conv => rhs; unfold bindA
                rw [if_neg hp0]
                congr 1
                · rw [List.tail_drop]
                · rw [hhd]
              · rcases HNX.out p hpN with z | z
                · rw [z]; omega
                · exact z
            have HI5 : Hid (EnI w A N root W A1 M1 args av R k' (.pointer (some ⟨wr.heap.size, 0, none⟩)) (.int .i64 ((i : Int) + 1)) (.int .i64 ((N.getD p nd0).next : Nat)) (wr.alloc (.cells #[sv (N.getD p nd0).s, .int .i64 (0 : Int), .int .u64 (0 : Nat), sv [], .pointer (eAd A4.E e')] 222))) := hI5

            have HAV := hid hav
            clear B4 B5 S4 S5 r4 r5 he' hbA hch hch2 hlk hpN ha4 hrel hE5 hE6 hI5 hav hhd
            rw [HAV.out]
            obtain ⟨AL, HAL⟩ : ∃ AL : Nat, Hid (args.length = AL) := ⟨_, rfl⟩
            rw [HAL.out] at hia h3 hial ⊢
            obtain ⟨ep, HEP⟩ : ∃ ep, Hid (eAd A4.E e' = ep) := ⟨_, rfl⟩
            rw [HEP.out] at HI5 ⊢
            obtain ⟨nx, HNXT⟩ : ∃ nx : Nat, Hid ((N.getD p nd0).next = nx) := ⟨_, rfl⟩
            obtain ⟨nm, HNM⟩ : ∃ nm, Hid ((N.getD p nd0).s = nm) := ⟨_, rfl⟩
            rw [HNXT.out] at e10 HI5
            rw [HNM.out] at e12 HI5
            go_wp2_with fail
            rw [← HAL.out, ← HAV.out]
            go_roundg k'
            case measure => omega
            case rel => exact HI5
  · rw [if_neg hq0] at HEN
    have bq0 : ((qn : Int) == 0) = false := by rw [beq_eq_false_iff_ne]; omega
    clear HMC
    go_wp2_with fail
    go_loopg [9, 12, 13] 4 (fun k v9 v12 v13 wr => Hid (EnI w A N root W A1 M1 args av R k v9 v12 v13 wr))
    case atStart => exact HI0
    case round =>
      obtain ⟨A4, E', e', p, l, i, rfl, rfl, rfl, B4, S4, r4, he', hbA, hch, hlk, hpN, hik, ha4⟩ := hrel.out
      by_cases hp0 : p = 0
      · subst hp0
        have hRv : R = (E', e') := by
          rw [← hbA]
          cases gk with
          | zero => omega
          | succ k => unfold bindA; rw [if_pos rfl]
        have C4 := do_m B4.r B4.c (by show M1.th.tasks.length ≤ 1000000; rw [hm3]; have := HTL.out; omega) 1 pb 0 e' (k' := 1) (y' := 0) rfl rfl rfl (ev := .pointer (eAd A4.E e')) rfl
        rw [B4.s.br] at C4
        have HC4 := hid C4
        have HB4 := hid B4
        have HS4 := hid S4
        have HRV := hid hRv
        clear C4 B4 S4 r4 he' hbA hch hlk hpN ha4 hRv hrel
        go_wp2_with fail
        refine HC4.out.mono ?_
        intro e14 w5 hq5
        obtain ⟨rfl, A5, B5, S5⟩ := HB4.out.of (c_todo HB4.out.c _) hq5
        have FIN : Hid (Q (.returned (.tuple #[])) w5) := by
          show Q _ _
          rw [← HQ.out, HEN.out, HRV.out]
          exact ⟨rfl, A5, B5, HS4.out.trans S5⟩
        clear B5 S5 hq5
        go_wp2
        go_end0
        exact FIN.out
      · cases l with
        | nil => exact absurd hch hp0
        | cons p9 l' =>
          obtain ⟨rfl, hch2⟩ : p = p9 ∧ p ≠ 0 ∧ Chain N (N.getD p nd0).next l' := by obtain ⟨z1, z2, z3⟩ := hch; subst z1; exact ⟨rfl, z2, z3⟩
          obtain ⟨k', rfl⟩ : ∃ k', gk = k' + 1 := ⟨gk - 1, by simp at hlk; omega⟩
          obtain ⟨g9, c9, D9⟩ := B4.nd hpN
          obtain ⟨e1, e2, e3, e4, e5, e6, e7, e8, e9, e10, e11, e12, e13⟩ := D9
          rw [HLL.out] at e1 e2 e5
          have bp : ((p : Int) != 0) = true := by rw [bne_iff_ne]; omega
          have hi3 : i ≤ 3 := by omega
          clear e6 e7 e8 e9 e11 e13
          by_cases hia : i < args.length
          · obtain ⟨⟨vt, vn, vs⟩, hvi⟩ : ∃ v, args[i]? = some v := ⟨args[i]'hia, by simp⟩
            have hhd : (args.drop i).headD nilV = ⟨vt, vn, vs⟩ := by
              rw [List.headD_eq_head?_getD, List.head?_drop, hvi]
              rfl
            rcases ha4 with ⟨_, z⟩ | ⟨ab, cs, o, cap, T, L4, hav, hcap, hcs⟩
            · rw [z] at hia; simp at hia
            · obtain ⟨v0, v1, v2⟩ := hcs i _ hvi
              have y0 : wr.cell? ⟨ab, o + i * 3, none⟩ = _ := (L4.h.cell _).trans v0
              have y1 : wr.cell? ⟨ab, o + i * 3 + 1, none⟩ = _ := (L4.h.cell _).trans v1
              have y2 : wr.cell? ⟨ab, o + i * 3 + 2, none⟩ = _ := (L4.h.cell _).trans v2
              dsimp only at y0 y1 y2
              have ly := L4.h.lt
              have ha4 : ArgS wr A4 av args := .inr ⟨ab, cs, o, cap, T, L4, hav, hcap, hcs⟩
              have hial : (i : Int) < (args.length : Int) := by omega
              obtain ⟨A5, B5, S5, hE5⟩ := B4.newEnv r4 ⟨(N.getD p nd0).s, ⟨vt, vn, vs⟩, e'⟩ he'
              have r5 := r4.env (e := ⟨(N.getD p nd0).s, ⟨vt, vn, vs⟩, e'⟩) he'
              have hE6 : eAd A5.E (some E'.length) = some ⟨wr.heap.size, 0, none⟩ := hE5
              have hI5 : EnI w A N root W A1 M1 args av R k' (.pointer (some ⟨wr.heap.size, 0, none⟩)) (.int .i64 ((i : Int) + 1)) (.int .i64 ((N.getD p nd0).next : Nat)) (wr.alloc (.cells (enV A4.E ⟨(N.getD p nd0).s, ⟨vt, vn, vs⟩, e'⟩) 222)) := by
                refine ⟨A5, E' ++ [⟨(N.getD p nd0).s, ⟨vt, vn, vs⟩, e'⟩], some E'.length, (N.getD p nd0).next, l', i + 1, by rw [hE6], by simp, rfl, B5, S4.trans S5, r5, fun j hj => by cases hj; simp, ?_, hch.2.2, by simp at hlk; omega, ?_, by omega, ha4.st S5⟩
                · rw [← hbA]
                  conv => rhs; unfold bindA
                  rw [if_neg hp0]
                  congr 1
                  · rw [List.tail_drop]
                  · rw [hhd]
                · rcases HNX.out p hpN with z | z
                  · rw [z]; omega
                  · exact z
              have HI5 : Hid (EnI w A N root W A1 M1 args av R k' (.pointer (some ⟨wr.heap.size, 0, none⟩)) (.int .i64 ((i : Int) + 1)) (.int .i64 ((N.getD p nd0).next : Nat)) (wr.alloc (.cells #[sv (N.getD p nd0).s, .int .i64 (vt : Int), .int .u64 (vn : Nat), sv vs, .pointer (eAd A4.E e')] 222))) := hI5

              have HAV := hid hav
              clear B4 B5 S4 S5 r4 r5 he' hbA hch hch2 hlk hpN ha4 hcs L4 hrel hE5 hE6 hI5 hav hhd hvi v0 v1 v2
              rw [HAV.out]
              obtain ⟨AL, HAL⟩ : ∃ AL : Nat, Hid (args.length = AL) := ⟨_, rfl⟩
              rw [HAL.out] at hia hcap h3 hial ⊢
              obtain ⟨ep, HEP⟩ : ∃ ep, Hid (eAd A4.E e' = ep) := ⟨_, rfl⟩
              rw [HEP.out] at HI5 ⊢
              obtain ⟨nx, HNXT⟩ : ∃ nx : Nat, Hid ((N.getD p nd0).next = nx) := ⟨_, rfl⟩
              obtain ⟨nm, HNM⟩ : ∃ nm, Hid ((N.getD p nd0).s = nm) := ⟨_, rfl⟩
              rw [HNXT.out] at e10 HI5
              rw [HNM.out] at e12 HI5
              go_wp2_with fail
              rw [← HAL.out, ← HAV.out]
              go_roundg k'
              case measure => omega
              case rel => exact HI5
          · have hhd : (args.drop i).headD nilV = ⟨0, 0, []⟩ := by
              rw [List.drop_eq_nil_of_le (by omega)]
              rfl
            have hav : ∃ p9 cap, av = .slice p9 args.length cap := by
              rcases ha4 with ⟨z1, z2⟩ | ⟨ab, cs, o, cap, T, L4, hav, hcap, hcs⟩
              · exact ⟨none, 0, by rw [z1, z2]; rfl⟩
              · exact ⟨_, _, hav⟩
            obtain ⟨p9, cap, hav⟩ := hav
            have hial : ((i : Int) < (args.length : Int)) = False := by simp; omega
            obtain ⟨A5, B5, S5, hE5⟩ := B4.newEnv r4 ⟨(N.getD p nd0).s, ⟨0, 0, []⟩, e'⟩ he'
            have r5 := r4.env (e := ⟨(N.getD p nd0).s, ⟨0, 0, []⟩, e'⟩) he'
            have hE6 : eAd A5.E (some E'.length) = some ⟨wr.heap.size, 0, none⟩ := hE5
            have hI5 : EnI w A N root W A1 M1 args av R k' (.pointer (some ⟨wr.heap.size, 0, none⟩)) (.int .i64 ((i : Int) + 1)) (.int .i64 ((N.getD p nd0).next : Nat)) (wr.alloc (.cells (enV A4.E ⟨(N.getD p nd0).s, ⟨0, 0, []⟩, e'⟩) 222)) := by
              refine ⟨A5, E' ++ [⟨(N.getD p nd0).s, ⟨0, 0, []⟩, e'⟩], some E'.length, (N.getD p nd0).next, l', i + 1, by rw [hE6], by simp, rfl, B5, S4.trans S5, r5, fun j hj => by cases hj; simp, ?_, hch.2.2, by simp at hlk; omega, ?_, by omega, ha4.st S5⟩
              · rw [← hbA]
                conv => rhs; unfold bindA
                rw [if_neg hp0]
                congr 1
                · rw [List.tail_drop]
                · rw [hhd]
              · rcases HNX.out p hpN with z | z
                · rw [z]; omega
                · exact z
            have HI5 : Hid (EnI w A N root W A1 M1 args av R k' (.pointer (some ⟨wr.heap.size, 0, none⟩)) (.int .i64 ((i : Int) + 1)) (.int .i64 ((N.getD p nd0).next : Nat)) (wr.alloc (.cells #[sv (N.getD p nd0).s, .int .i64 (0 : Int), .int .u64 (0 : Nat), sv [], .pointer (eAd A4.E e')] 222))) := hI5

            have HAV := hid hav
            clear B4 B5 S4 S5 r4 r5 he' hbA hch hch2 hlk hpN ha4 hrel hE5 hE6 hI5 hav hhd
            rw [HAV.out]
            obtain ⟨AL, HAL⟩ : ∃ AL : Nat, Hid (args.length = AL) := ⟨_, rfl⟩
            rw [HAL.out] at hia h3 hial ⊢
            obtain ⟨ep, HEP⟩ : ∃ ep, Hid (eAd A4.E e' = ep) := ⟨_, rfl⟩
            rw [HEP.out] at HI5 ⊢
            obtain ⟨nx, HNXT⟩ : ∃ nx : Nat, Hid ((N.getD p nd0).next = nx) := ⟨_, rfl⟩
            obtain ⟨nm, HNM⟩ : ∃ nm, Hid ((N.getD p nd0).s = nm) := ⟨_, rfl⟩
            rw [HNXT.out] at e10 HI5
            rw [HNM.out] at e12 HI5
            go_wp2_with fail
            rw [← HAL.out, ← HAV.out]
            go_roundg k'
            case measure => omega
            case rel => exact HI5
end
end Go.Proofs.Qxb6500574aGreatDoor
