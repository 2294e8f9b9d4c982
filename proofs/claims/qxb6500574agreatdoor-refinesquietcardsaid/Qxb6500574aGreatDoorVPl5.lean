/-
  THE WALK of vm: plain: tables.
-/
import Derived.Test.Qxb6500574aGreatDoorVPl0
import Derived.Test.Qxb6500574aGreatDoorReg9
namespace Go.Proofs.Qxb6500574aGreatDoor
open Go Go.RowKit
set_option linter.unusedVariables false
set_option linter.unusedSimpArgs false
section
variable {w : World} {A : VL} {m : VMD} {f e i g j gp pi : Nat} {t : ThD} {K : Cx} {fm : FmD} {p : PrD}
set_option maxRecDepth 100000
set_option maxHeartbeats 400000
theorem plain_11 (h : PB w A m f e K i t fm g j gp pi p) {x : Nat} (hx16 : x < 65536) {r : List Vl} {a b : Vl} (hs : t.stack = r ++ [a, b]) :
    Calls Tryz.prog 269 #[.pointer (some ⟨A.b, 0, none⟩), .int .i64 i, .pointer (some ⟨A.bT, i * 5, none⟩), .pointer (some ⟨g, j * 5, none⟩), .pointer (some ⟨gp, pi * 8, none⟩), .int .u8 11, .int .i64 x] w (PlPost (plainP m i 11 x) w A f e i) := by
  have hop : plainP m i 11 x = (if a.t ≠ 4 then thrR mIndex (m.setTh i { t with stack := r }) else (.inr (), m.setTh i { t with stack := r ++ [(m.tabs.getD a.n tab0).get b] })) := by
    unfold plainP
    simp (config := { decide := true }) only [if_true, if_false]
    rw [(topV_1 h.at'.hi hs).1, (topV_1 h.at'.hi hs).2, pops_2 h.at'.hi hs, ppush h.at'.hi]
  obtain ⟨Q, HQ⟩ : ∃ Q : Ending → World → Prop, Hid (PlPost (plainP m i 11 x) w A f e i = Q) := ⟨_, rfl⟩
  rw [HQ.out]
  have HOP : Hid (plainP m i 11 x = _) := hop
  clear hop
  have HI : Hid (m.ths[i]? = some t) := h.at'.hi
  have HB : Hid (PB w A m f e K i t fm g j gp pi p) := h
  have HS : Hid (t.stack = (r ++ [a]) ++ [b]) := by
    show _ = _
    rw [hs]; simp
  have HVB : Hid (VOk K b) := h.at'.ok.sv b (by rw [hs]; simp)
  have HVA : Hid (VOk K a) := h.at'.ok.sv a (by rw [hs]; simp)
  clear hs
  obtain ⟨l, hx, hg, c1, c2, c3, c4, c5, c6, c7, c8, c9, c10, c11, c12⟩ := h.cells
  have HX : Hid (A.X[i]? = some l) := hx
  have HG : Hid (l.f.a = some ⟨g, 0, none⟩) := hg
  have HSN : Hid (t.stack.length ≤ 1120) := c11
  obtain ⟨sa, HSA⟩ : ∃ sa, Hid (l.s.a = sa) := ⟨_, rfl⟩
  obtain ⟨sc, HSC⟩ : ∃ sc, Hid (l.s.c = sc) := ⟨_, rfl⟩
  rw [HSA.out, HSC.out] at c1
  rw [HSC.out] at c9
  obtain ⟨n, HN⟩ : ∃ n, Hid (t.stack.length = n) := ⟨_, rfl⟩
  rw [HN.out] at c1 c9 c10 c11
  clear h hx hg
  go_enter Tryz.func269, Tryz.ntmps269
  go_wp2_with fail
  go_quiet (fail)
  obtain ⟨SL, HSL⟩ : ∃ v, Hid (Value.slice (if sc = fm.base then sa else Option.map (fun x => x.add (fm.base * 3)) sa) (fm.base + p.ns - fm.base) (sc - fm.base) = v) := ⟨_, rfl⟩
  rw [HSL.out]
  have F0 : Fr (fun _ => False) w (w.drewN nq) := (Fr.refl _ _).drewN nq
  obtain ⟨w0, HW0⟩ : ∃ w0, Hid (w.drewN nq = w0) := ⟨_, rfl⟩
  rw [HW0.out] at F0 ⊢
  have HF0 : Hid (Fr (fun _ => False) w w0) := F0
  have B0 := HB.out.fresh F0
  have HB0 : Hid (PB w0 A m f e K i t fm g j gp pi p) := B0
  clear F0 c1 c2 c3 c4 c5 c6 c7 c8
  clear B0
  go_wp2_with fail
  refine (vpop_any HB0.out.rep HI.out HS.out (by have := HSN.out; rw [HS.out] at this; simp at this ⊢; omega)).mono ?_
  rintro e' w1 ⟨rfl, r1, s1⟩
  have HR1 : Hid (VRep w1 A (m.setTh i { t with stack := r ++ [a] }) f e) := r1
  have HS1 : Hid (VSt (isT i) w0 A w1 A) := s1
  have hz1 : A.o w1.heap.size = 0 := r1.own _ (Nat.le_refl _)
  have HZ1 : Hid (A.o w1.heap.size = 0) := hz1
  clear r1 s1 hz1
  obtain ⟨bt, bn, bs⟩ := b
  go_wp2_with fail
  refine (vpop_any (HR1.out.fresh ((Fr.refl _ w1).alloc (.cells #[.int .i64 bt, .int .u64 bn, sv bs] 68))) (setTh_at HI.out) rfl (by have := HSN.out; rw [HS.out] at this; simp at this; omega)).mono ?_
  rintro e' w2 ⟨rfl, r2, s2⟩
  rw [setTh_set] at r2
  have k20 : Has w2 w1.heap.size #[.int .i64 bt, .int .u64 bn, sv bs] 68 := (s2.keep0 isT0 (Has.new w1 _ _) HZ1.out).1
  have HS2 : Hid (VSt (isT i) w A w2 A) := (((VSt.fresh HF0.out).trans HS1.out).trans (VSt.fresh ((Fr.refl _ w1).alloc _))).trans s2
  have HR2 : Hid (VRep w2 A (m.setTh i { t with stack := r }) f e) := r2
  have HK20 : Hid (Has w2 w1.heap.size #[.int .i64 bt, .int .u64 bn, sv bs] 68) := k20
  clear r2 s2 k20
  obtain ⟨aT, an, aS⟩ := a
  by_cases h4 : aT = 4
  · subst h4
    rw [if_neg (by simp)] at HOP
    have hnt := HVA.out.t rfl
    have hkt := HB0.out.at'.vi.kt
    have hkn := HB0.out.at'.vi.tn
    dsimp only at hnt HOP
    obtain ⟨td, htd⟩ : ∃ td, m.tabs[an]? = some td := ⟨m.tabs[an]'(by omega), by simp⟩
    rw [show m.tabs.getD an tab0 = td by simp [htd]] at HOP
    have HTF : Hid (TFit td) := (HB0.out.at'.vi.tb td (List.mem_of_getElem? htd)).1
    have HTD : Hid (m.tabs[an]? = some td) := htd
    clear htd
    go_wp2_with fail
    refine (tabOf_ok an (by omega) aS mIndex).mono ?_
    rintro e' w3 ⟨rfl, f3⟩
    have F3 : Fr (fun _ => False) w2 w3 := ((Fr.refl _ w2).alloc _).trans f3 (fun _ _ x => x)
    have HF3 : Hid (Fr (fun _ => False) w2 w3) := F3
    clear f3
    have R3 := HR2.out.fresh F3
    have cs1 : ∀ s : WS w3, s.y.cell? ⟨A.b, 1, none⟩ = some (.pointer (some ⟨A.bt, 0, none⟩)) := fun s => by
      have := (R3.fresh s.f).cell0 1
      simpa only [vmCells, List.getElem?_toArray, List.getElem?_cons_succ, List.getElem?_cons_zero] using this
    have k3 : ∀ s : WS w3, Has s.y w1.heap.size #[.int .i64 bt, .int .u64 bn, sv bs] 68 := fun s => (HK20.out.fr F3 (fun x => x)).fr s.f (fun x => x)
    have d0 : ∀ s : WS w3, s.y.cell? ⟨w1.heap.size, 0, none⟩ = some (.int .i64 bt) := fun s => by have := (k3 s).cell 0; simpa using this
    have d1 : ∀ s : WS w3, s.y.cell? ⟨w1.heap.size, 1, none⟩ = some (.int .u64 bn) := fun s => by have := (k3 s).cell 1; simpa using this
    have d2 : ∀ s : WS w3, s.y.cell? ⟨w1.heap.size, 2, none⟩ = some (sv bs) := fun s => by have := (k3 s).cell 2; simpa using this
    have GET : Hid (∀ W, Fr (fun _ => False) w3 W → Calls Tryz.prog 296 #[.pointer (some ⟨A.bt, 0, none⟩), .int .i64 an, (⟨bt, bn, bs⟩ : Vl).val] W fun e w' => e = .returned (.tuple #[(td.get ⟨bt, bn, bs⟩).val, .int .i64 0]) ∧ Fr (fun _ => False) W w') := fun W hW => get_vm (R3.fresh hW) HTD.out HTF.out (by show m.tabs.length ≤ 12; omega) HVB.out.w (fun _ => HVB.out.b)
    clear R3 F3 k3
    go_wp2_with fail
    have HNE : Nonempty (WS w3) := WS.non w3
    refine wp_region_plan [0, 1, 2, 3, 4, 5] (.two 6 (.quiet [7, 8, 9] (.one 10 .done)) 10 (.one 6 (.quiet [7, 8, 9] .done))) 11 (fun x => ∃ s : WS w3, x = s.y) (by kernel_rfl) (by kernel_rfl) (fun _ _ _ _ _ h => h) ⟨⟨w3.drew, (Fr.refl _ _).drew⟩, rfl⟩ [_, _, _, _, _, _] rfl _ rfl ?_
    simp only [List.getElem_toArray, List.getElem_cons_succ, List.getElem_cons_zero, List.drop_succ_cons, List.drop_zero, List.length_cons, List.length_nil, Nat.zero_add]
    repeat go_big_quiet_step (fail)
    refine wpQuiet_nil ?_
    clear cs1 d0 d1 d2
    obtain ⟨gv, HGV⟩ : ∃ gv, Hid (td.get ⟨bt, bn, bs⟩ = gv) := ⟨_, rfl⟩
    rw [HGV.out] at GET HOP
    clear HGV
    obtain ⟨gt, gn, gs⟩ := gv
    refine ⟨fun a' a W => ∃ B, a = (((((a'.put (some 189) (.tuple #[.agg #[.int .i64 gt, .int .u64 gn, sv gs], .int .i64 0])).put (some 182) (.tuple #[.agg #[.int .i64 gt, .int .u64 gn, sv gs], .int .i64 0])).put (some 190) (.agg #[.int .i64 gt, .int .u64 gn, sv gs])).put (some 191) (.int .i64 0)).put (some 23) (.pointer (some ⟨B, 0, none⟩))) ∧ Fr (fun _ => False) w3 W ∧ Has W B #[.int .i64 0, .int .u64 0, sv []] 68 ∧ w3.heap.size ≤ B, ?_, ?_⟩
    · rintro a W hSW ⟨B, rfl, f4, h4, l4⟩
      clear hSW HNE
      simp only [Act.put, List.setIfInBounds_toArray, List.set_cons_succ, List.set_cons_zero]
      obtain ⟨e0, e1, e2⟩ := Has.cells3 (v := nilV) h4
      dsimp only [nilV] at e0 e1 e2
      obtain ⟨e3, e4, e5⟩ := h4.frz3
      have hl4 := h4.lt
      have HFW : Hid (Fr (fun _ => False) w3 (((W.setCell ⟨B, 0, none⟩ (.int .i64 gt)).setCell ⟨B, 1, none⟩ (.int .u64 gn)).setCell ⟨B, 2, none⟩ (sv gs))) := ((f4.setCell (p := ⟨B, 0, none⟩) (.inr l4) _).setCell (p := ⟨B, 1, none⟩) (.inr l4) _).setCell (p := ⟨B, 2, none⟩) (.inr l4) _
      have HHW : Hid (Has (((W.setCell ⟨B, 0, none⟩ (.int .i64 gt)).setCell ⟨B, 1, none⟩ (.int .u64 gn)).setCell ⟨B, 2, none⟩ (sv gs)) B #[.int .i64 gt, .int .u64 gn, sv gs] 68) := h4.put3 _ _ _
      clear f4 h4 l4 GET
      unfold wpChain
      go_wp2
      refine ⟨⟨⟨_, HFW.out⟩, rfl⟩, ?_⟩
      unfold wpChain
      go_wp2
      refine ⟨⟨⟨_, HFW.out⟩, rfl⟩, ?_⟩
      rw [wpChain_zero]
      obtain ⟨w6, HW6⟩ : ∃ w6, Hid ((((W.setCell ⟨B, 0, none⟩ (.int .i64 gt)).setCell ⟨B, 1, none⟩ (.int .u64 gn)).setCell ⟨B, 2, none⟩ (sv gs)) = w6) := ⟨_, rfl⟩
      rw [HW6.out] at HFW HHW
      have e6 : (((W.setCell ⟨B, 0, none⟩ (.int .i64 gt)).setCell ⟨B, 1, none⟩ (.int .u64 gn)).setCell ⟨B, 2, none⟩ (.string ⟨gs.toArray⟩)) = w6 := HW6.out
      rw [e6]
      clear e0 e1 e2 e3 e4 e5 hl4 HW6 e6
      obtain ⟨q0, q1, q2⟩ := Has.cells3 (v := ⟨gt, gn, gs⟩) HHW.out
      have ql := HHW.out.lt
      clear W
      go_wp2_with fail
      have PU := vpush_fk (c := 1) (HR2.out.fresh (((HF3.out.trans HFW.out (fun _ _ x => x)).alloc _))) (setTh_at HI.out) [⟨gt, gn, gs⟩] (by simp) (by have := HSN.out; rw [HS.out] at this; simp at this ⊢; omega) (B := w6.heap.size) (Has.new _ _ _)
      refine PU.mono ?_
      clear PU
      rintro e' wz ⟨rfl, A', z1, z2, z3⟩
      have FIN : Hid (Q (.returned (.tuple #[])) wz) := by
        rw [← HQ.out, HOP.out]
        rw [setTh_set] at z1
        exact ⟨rfl, A', z1, ((HS2.out.trans (VSt.fresh (((HF3.out.trans HFW.out (fun _ _ x => x)).alloc _)))).trans z2).weaken (fun k hk => by unfold isVM; unfold isT at hk; omega), z3⟩
      clear z1 z2 z3
      go_wp2_with fail
      go_end0
      exact FIN.out
    · intro G HG
      refine ⟨⟨_, rfl, ?_⟩, ⟨_, rfl, ?_⟩⟩
      · go_wp2_with fail
        refine (GET.out _ ((Fr.refl _ w3).drew)).mono ?_
        rintro e' w5 ⟨rfl, f5⟩
        have f6 : Fr (fun _ => False) w3 w5 := ((Fr.refl _ w3).drew).trans f5 (fun _ _ x => x)
        clear f5
        go_wp2_with fail
        refine ⟨⟨⟨_, f6⟩, rfl⟩, [_, _, _], rfl, ?_⟩
        simp only [List.getElem_toArray, List.getElem_cons_succ, List.getElem_cons_zero]
        repeat go_big_quiet_step (fail)
        refine wpQuiet_nil ?_
        refine ⟨_, rfl, ?_⟩
        go_wp2_with fail
        refine ⟨⟨⟨_, f6.alloc _⟩, rfl⟩, ?_⟩
        show G _ _
        rw [HG.out]
        exact ⟨w5.heap.size, by kernel_rfl, f6.alloc _, Has.new _ _ _, f6.size⟩
      · go_wp2_with fail
        refine ⟨⟨⟨_, ((Fr.refl _ w3).drew).alloc _⟩, rfl⟩, _, rfl, ?_⟩
        go_wp2_with fail
        refine (GET.out _ (((Fr.refl _ w3).drew).alloc _)).mono ?_
        rintro e' w5 ⟨rfl, f5⟩
        have f6 : Fr (fun _ => False) w3 w5 := (((Fr.refl _ w3).drew).alloc _).trans f5 (fun _ _ x => x)
        have h6 : Has w5 w3.heap.size #[.int .i64 0, .int .u64 0, sv []] 68 := (Has.newC w3.drew _ _ rfl).fr f5 (fun x => x)
        clear f5
        go_wp2_with fail
        refine ⟨⟨⟨_, f6⟩, rfl⟩, [_, _, _], rfl, ?_⟩
        simp only [List.getElem_toArray, List.getElem_cons_succ, List.getElem_cons_zero]
        repeat go_big_quiet_step (fail)
        refine wpQuiet_nil ?_
        show G _ _
        rw [HG.out]
        exact ⟨w3.heap.size, by kernel_rfl, f6, h6, Nat.le_refl _⟩
  · go_wp2_with fail
    refine (tabOf_no ⟨aT, an, aS⟩ h4 mIndex).mono ?_
    rintro e' w3 ⟨⟨b, rfl, hb, hbl⟩, f3⟩
    have FIN : Hid (Q (.panicked (thrE b)) w3) := by
      rw [← HQ.out, HOP.out, if_pos h4]
      have sz := HS2.out.st.fr.size
      exact ⟨⟨b, rfl, hb, by simp at hbl; omega⟩, A, HR2.out.fresh (((Fr.refl _ _).alloc _).trans f3 (fun _ _ x => x)), (HS2.out.weaken (fun k hk => by unfold isVM; unfold isT at hk; omega)).trans (VSt.fresh (((Fr.refl _ _).alloc _).trans f3 (fun _ _ x => x)))⟩
    exact ⟨rfl, FIN.out⟩
theorem plain_9 (h : PB w A m f e K i t fm g j gp pi p) {x : Nat} (hx16 : x < 65536) {c : Vl} (hc : m.consts[p.k + x]? = some c) :
    Calls Tryz.prog 269 #[.pointer (some ⟨A.b, 0, none⟩), .int .i64 i, .pointer (some ⟨A.bT, i * 5, none⟩), .pointer (some ⟨g, j * 5, none⟩), .pointer (some ⟨gp, pi * 8, none⟩), .int .u8 9, .int .i64 x] w (PlPost (plainP m i 9 x) w A f e i) := by
  have hop : plainP m i 9 x = (.inr (), m.setTh i { t with stack := t.stack ++ [(m.tabs.getD 0 tab0).get c] }) := by
    unfold plainP
    simp (config := { decide := true }) only [if_true, if_false]
    rw [h.at'.topF, h.pe, push_is h.at'.hi]
    simp [hc]
  obtain ⟨Q, HQ⟩ : ∃ Q : Ending → World → Prop, Hid (PlPost (plainP m i 9 x) w A f e i = Q) := ⟨_, rfl⟩
  rw [HQ.out]
  have HOP : Hid (plainP m i 9 x = _) := hop
  clear hop
  have HI : Hid (m.ths[i]? = some t) := h.at'.hi
  have HB : Hid (PB w A m f e K i t fm g j gp pi p) := h
  have HC : Hid (m.consts[p.k + x]? = some c) := hc
  have HVC : Hid (VOk K c) := (h.at'.vi.txt.ks c (List.mem_of_getElem? hc)).2 K
  clear hc
  obtain ⟨l, hx, hg, c1, c2, c3, c4, c5, c6, c7, c8, c9, c10, c11, c12⟩ := h.cells
  have HX : Hid (A.X[i]? = some l) := hx
  have HG : Hid (l.f.a = some ⟨g, 0, none⟩) := hg
  have HSN : Hid (t.stack.length ≤ 1120) := c11
  obtain ⟨sa, HSA⟩ : ∃ sa, Hid (l.s.a = sa) := ⟨_, rfl⟩
  obtain ⟨sc, HSC⟩ : ∃ sc, Hid (l.s.c = sc) := ⟨_, rfl⟩
  rw [HSA.out, HSC.out] at c1
  rw [HSC.out] at c9
  obtain ⟨n, HN⟩ : ∃ n, Hid (t.stack.length = n) := ⟨_, rfl⟩
  rw [HN.out] at c1 c9 c10 c11
  clear h hx hg
  go_enter Tryz.func269, Tryz.ntmps269
  go_wp2_with fail
  go_quiet (fail)
  obtain ⟨SL, HSL⟩ : ∃ v, Hid (Value.slice (if sc = fm.base then sa else Option.map (fun x => x.add (fm.base * 3)) sa) (fm.base + p.ns - fm.base) (sc - fm.base) = v) := ⟨_, rfl⟩
  rw [HSL.out]
  have F0 : Fr (fun _ => False) w (w.drewN nq) := (Fr.refl _ _).drewN nq
  obtain ⟨w0, HW0⟩ : ∃ w0, Hid (w.drewN nq = w0) := ⟨_, rfl⟩
  rw [HW0.out] at F0 ⊢
  have HF0 : Hid (Fr (fun _ => False) w w0) := F0
  have B0 := HB.out.fresh F0
  have HB0 : Hid (PB w0 A m f e K i t fm g j gp pi p) := B0
  clear F0 c1 c2 c3 c4 c5 c6 c7 c8
  have cc := B0.rep.cell0 4
  simp only [vmCells, List.getElem?_toArray, List.getElem?_cons_succ, List.getElem?_cons_zero, Sl.v] at cc
  obtain ⟨gc, k1, k2, k3, k4, k5, k6⟩ := B0.rep.core.consts.at vCells_len HC.out
  rw [k1] at cc
  have k50 := k5 0 (by omega)
  have k51 := k5 1 (by omega)
  have k52 := k5 2 (by omega)
  simp only [vCells, List.getElem?_cons_succ, List.getElem?_cons_zero, Nat.add_zero] at k50 k51 k52
  obtain ⟨_, _, _, _, _, _, _, _, _, p4, pl, _⟩ := B0.cells
  have hkl := (List.getElem?_eq_some_iff.1 HC.out).1
  have hkx := B0.at'.vi.txt.kl
  have hc1 := B0.rep.cell0 1
  simp only [vmCells, List.getElem?_toArray, List.getElem?_cons_succ, List.getElem?_cons_zero] at hc1
  have hkt := B0.at'.vi.kt
  have hkn := B0.at'.vi.tn
  have hk1 := B0.at'.vi.t1
  obtain ⟨td, htd⟩ : ∃ td, m.tabs[0]? = some td := ⟨m.tabs[0]'(by omega), by simp⟩
  rw [show m.tabs.getD 0 tab0 = td by simp [htd]] at HOP
  have HTF : Hid (TFit td) := (B0.at'.vi.tb td (List.mem_of_getElem? htd)).1
  have HTD : Hid (m.tabs[0]? = some td) := htd
  clear htd k1 k3 k5 k6 B0
  obtain ⟨ct, cn, cs⟩ := c
  have cs1 : ∀ s : WS w0, s.y.cell? ⟨A.b, 1, none⟩ = some (.pointer (some ⟨A.bt, 0, none⟩)) := fun s => s.f.cell hc1
  have cs4 := fun s : WS w0 => s.f.cell cc
  have d0 := fun s : WS w0 => s.f.cell k50
  have d1 := fun s : WS w0 => s.f.cell k51
  have d2 := fun s : WS w0 => s.f.cell k52
  have d4 := fun s : WS w0 => s.f.cell p4
  have GET : Hid (∀ W, Fr (fun _ => False) w0 W → Calls Tryz.prog 296 #[.pointer (some ⟨A.bt, 0, none⟩), .int .i64 0, (⟨ct, cn, cs⟩ : Vl).val] W fun e w' => e = .returned (.tuple #[(td.get ⟨ct, cn, cs⟩).val, .int .i64 0]) ∧ Fr (fun _ => False) W w') := fun W hW => get_vm (HB0.out.rep.fresh hW) HTD.out HTF.out (by show m.tabs.length ≤ 12; omega) HVC.out.w (fun _ => HVC.out.b)
  clear hc1 cc k50 k51 k52 p4
  dsimp only at d0 d1 d2
  go_wp2_with fail
  have HNE : Nonempty (WS w0) := WS.non w0
  refine wp_region_plan [0, 1, 2, 3, 4, 5, 6, 7, 8, 9, 10, 11, 12, 13, 14, 15] (.two 16 (.quiet [17, 18, 19] (.one 20 .done)) 20 (.one 16 (.quiet [17, 18, 19] .done))) 21 (fun x => ∃ s : WS w0, x = s.y) (by kernel_rfl) (by kernel_rfl) (fun _ _ _ _ _ h => h) ⟨⟨w0.drew, (Fr.refl _ _).drew⟩, rfl⟩ [_, _, _, _, _, _, _, _, _, _, _, _, _, _, _, _] rfl _ rfl ?_
  simp only [List.getElem_toArray, List.getElem_cons_succ, List.getElem_cons_zero, List.drop_succ_cons, List.drop_zero, List.length_cons, List.length_nil, Nat.zero_add]
  repeat go_big_quiet_step (fail)
  refine wpQuiet_nil ?_
  clear cs1 cs4 d0 d1 d2 d4
  obtain ⟨gv, HGV⟩ : ∃ gv, Hid (td.get ⟨ct, cn, cs⟩ = gv) := ⟨_, rfl⟩
  rw [HGV.out] at GET HOP
  clear HGV
  obtain ⟨gt, gn, gs⟩ := gv
  refine ⟨fun a' a W => ∃ B, a = (((((a'.put (some 148) (.tuple #[.agg #[.int .i64 gt, .int .u64 gn, sv gs], .int .i64 0])).put (some 131) (.tuple #[.agg #[.int .i64 gt, .int .u64 gn, sv gs], .int .i64 0])).put (some 149) (.agg #[.int .i64 gt, .int .u64 gn, sv gs])).put (some 150) (.int .i64 0)).put (some 17) (.pointer (some ⟨B, 0, none⟩))) ∧ Fr (fun _ => False) w0 W ∧ Has W B #[.int .i64 0, .int .u64 0, sv []] 68 ∧ w0.heap.size ≤ B, ?_, ?_⟩
  · rintro a W hSW ⟨B, rfl, f4, h4, l4⟩
    clear hSW HNE
    simp only [Act.put, List.setIfInBounds_toArray, List.set_cons_succ, List.set_cons_zero]
    obtain ⟨e0, e1, e2⟩ := Has.cells3 (v := nilV) h4
    dsimp only [nilV] at e0 e1 e2
    obtain ⟨e3, e4, e5⟩ := h4.frz3
    have hl4 := h4.lt
    have HFW : Hid (Fr (fun _ => False) w0 (((W.setCell ⟨B, 0, none⟩ (.int .i64 gt)).setCell ⟨B, 1, none⟩ (.int .u64 gn)).setCell ⟨B, 2, none⟩ (sv gs))) := ((f4.setCell (p := ⟨B, 0, none⟩) (.inr l4) _).setCell (p := ⟨B, 1, none⟩) (.inr l4) _).setCell (p := ⟨B, 2, none⟩) (.inr l4) _
    have HHW : Hid (Has (((W.setCell ⟨B, 0, none⟩ (.int .i64 gt)).setCell ⟨B, 1, none⟩ (.int .u64 gn)).setCell ⟨B, 2, none⟩ (sv gs)) B #[.int .i64 gt, .int .u64 gn, sv gs] 68) := h4.put3 _ _ _
    clear f4 h4 l4 GET
    unfold wpChain
    go_wp2
    refine ⟨⟨⟨_, HFW.out⟩, rfl⟩, ?_⟩
    unfold wpChain
    go_wp2
    refine ⟨⟨⟨_, HFW.out⟩, rfl⟩, ?_⟩
    rw [wpChain_zero]
    obtain ⟨w6, HW6⟩ : ∃ w6, Hid ((((W.setCell ⟨B, 0, none⟩ (.int .i64 gt)).setCell ⟨B, 1, none⟩ (.int .u64 gn)).setCell ⟨B, 2, none⟩ (sv gs)) = w6) := ⟨_, rfl⟩
    rw [HW6.out] at HFW HHW
    have e6 : (((W.setCell ⟨B, 0, none⟩ (.int .i64 gt)).setCell ⟨B, 1, none⟩ (.int .u64 gn)).setCell ⟨B, 2, none⟩ (.string ⟨gs.toArray⟩)) = w6 := HW6.out
    rw [e6]
    clear e0 e1 e2 e3 e4 e5 hl4 HW6 e6
    obtain ⟨q0, q1, q2⟩ := Has.cells3 (v := ⟨gt, gn, gs⟩) HHW.out
    have ql := HHW.out.lt
    clear W
    go_wp2_with fail
    have PU := vpush_fk (c := 1) (HB0.out.rep.fresh ((HFW.out.alloc _))) HI.out [⟨gt, gn, gs⟩] (by simp) (by have := HSN.out; simp; omega) (B := w6.heap.size) (Has.new _ _ _)
    refine PU.mono ?_
    clear PU
    rintro e' wz ⟨rfl, A', z1, z2, z3⟩
    have FIN : Hid (Q (.returned (.tuple #[])) wz) := by
      rw [← HQ.out, HOP.out]
      exact ⟨rfl, A', z1, (((VSt.fresh HF0.out).trans (VSt.fresh ((HFW.out.alloc _)))).trans z2).weaken (fun k hk => by unfold isVM; unfold isT at hk; omega), z3⟩
    clear z1 z2 z3
    go_wp2_with fail
    go_end0
    exact FIN.out
  · intro G HG
    refine ⟨⟨_, rfl, ?_⟩, ⟨_, rfl, ?_⟩⟩
    · go_wp2_with fail
      refine (GET.out _ ((Fr.refl _ w0).drew)).mono ?_
      rintro e' w5 ⟨rfl, f5⟩
      have f6 : Fr (fun _ => False) w0 w5 := ((Fr.refl _ w0).drew).trans f5 (fun _ _ x => x)
      clear f5
      go_wp2_with fail
      refine ⟨⟨⟨_, f6⟩, rfl⟩, [_, _, _], rfl, ?_⟩
      simp only [List.getElem_toArray, List.getElem_cons_succ, List.getElem_cons_zero]
      repeat go_big_quiet_step (fail)
      refine wpQuiet_nil ?_
      refine ⟨_, rfl, ?_⟩
      go_wp2_with fail
      refine ⟨⟨⟨_, f6.alloc _⟩, rfl⟩, ?_⟩
      show G _ _
      rw [HG.out]
      exact ⟨w5.heap.size, by kernel_rfl, f6.alloc _, Has.new _ _ _, f6.size⟩
    · go_wp2_with fail
      refine ⟨⟨⟨_, ((Fr.refl _ w0).drew).alloc _⟩, rfl⟩, _, rfl, ?_⟩
      go_wp2_with fail
      refine (GET.out _ (((Fr.refl _ w0).drew).alloc _)).mono ?_
      rintro e' w5 ⟨rfl, f5⟩
      have f6 : Fr (fun _ => False) w0 w5 := (((Fr.refl _ w0).drew).alloc _).trans f5 (fun _ _ x => x)
      have h6 : Has w5 w0.heap.size #[.int .i64 0, .int .u64 0, sv []] 68 := (Has.newC w0.drew _ _ rfl).fr f5 (fun x => x)
      clear f5
      go_wp2_with fail
      refine ⟨⟨⟨_, f6⟩, rfl⟩, [_, _, _], rfl, ?_⟩
      simp only [List.getElem_toArray, List.getElem_cons_succ, List.getElem_cons_zero]
      repeat go_big_quiet_step (fail)
      refine wpQuiet_nil ?_
      show G _ _
      rw [HG.out]
      exact ⟨w0.heap.size, by kernel_rfl, f6, h6, Nat.le_refl _⟩
end
end Go.Proofs.Qxb6500574aGreatDoor
