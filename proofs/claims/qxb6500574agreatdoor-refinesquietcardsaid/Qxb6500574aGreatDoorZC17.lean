/-
  THE WALKS of compm: eval, names.
-/
import Derived.Test.Qxb6500574aGreatDoorZC16
namespace Go.Proofs.Qxb6500574aGreatDoor
open Go Go.RowKit
set_option linter.unusedVariables false
set_option linter.unusedSimpArgs false
theorem findE_lt {E : List EnD} {s : Bs} (hu : ∀ (i : Nat) (e : EnD), E[i]? = some e → ∀ j, e.up = some j → j < i) : ∀ (k : Nat) (e : Option Nat), (∀ i, e = some i → i < E.length) → ∀ r, findE E s k e = some r → r < E.length
  | 0, e, _, r, h => by cases e <;> cases h
  | k + 1, none, _, r, h => by cases h
  | k + 1, some i, he, r, h => by
    have hi := he i rfl
    unfold findE at h
    split at h
    · cases h; exact hi
    · have hg : E[i]? = some (E.getD i en0) := by rw [List.getD_eq_getElem?_getD, List.getElem?_eq_getElem hi]; rfl
      exact findE_lt hu k _ (fun j hj => by have := hu i _ hg j hj; omega) r h
section
variable {w W W1 : World} {A A1 A2 : RnP} {N : List Nd} {root : Nat} {M : MD}
theorem RB.eIn (B : RB w A N root W A1 M) {e : Option Nat} (he : ∀ i, e = some i → i < A.E.length) : ∀ i, e = some i → i < M.envs.length := fun i hi => by
  have h1 := he i hi
  obtain ⟨t, ht⟩ := B.s.e
  have h2 := B.r.le
  rw [← ht, List.length_append] at h2
  omega
set_option maxRecDepth 100000
set_option maxHeartbeats 1000000
theorem eval17 (B : RB w A N root W A1 M) (hvl : M.th.vals.length ≤ 999990) (RO : RefOk M) (TI : ∀ t ∈ M.tabs, TTi t) (h0t : 0 < M.tabs.length) {n : Nat} (hn : n < N.length) (hn0 : n ≠ 0) (hN : N.length ≤ 1000) (hs : (N.getD n nd0).s.length ≤ 40) {x : Nat} {e : Option Nat} (he : ∀ i, e = some i → i < A.E.length) (hk : (N.getD n nd0).k = 17) :
    Calls Tryz.prog 114 #[.pointer (some ⟨A.br, 0, none⟩), .int .i64 n, .int .i64 x, .pointer (eAd A.E e)] W (PQm w A N root (M.eval N n x e)) := by
  obtain ⟨Q, HQ⟩ : ∃ Q : Ending → World → Prop, Hid (PQm w A N root (M.eval N n x e) = Q) := ⟨_, rfl⟩
  rw [HQ.out]
  obtain ⟨g, c, D⟩ := B.nd hn
  obtain ⟨c2, lc, lb, lg, ln, d0, d1, d2, d3, d4, d5, d6, d7⟩ := D
  obtain ⟨⟨dk, da, db, dc, dnx, dn, dss, dp⟩, HD⟩ : ∃ d, Hid (N.getD n nd0 = d) := ⟨_, rfl⟩
  have HZ : Hid (M.eval N n x e = match M.find e dss with
    | some i => M.push [(M.envs.getD i en0).v]
    | none => M.push [(M.tabs.getD 0 tab0).get (strV dss)]) := by
    show _ = _
    unfold MD.eval
    dsimp only
    rw [if_neg hn0, HD.out]
    rw [HD.out] at hk
    dsimp only at hk
    subst hk
    simp (config := { decide := true }) only [if_true, if_false]
    cases M.find e dss <;> rfl
  rw [HD.out] at d0 d1 d2 d3 d4 d5 d6 d7 hk hs
  dsimp only at d0 d1 d2 d3 d4 d5 d6 d7 hk hs
  subst hk
  obtain ⟨NL, HLL⟩ : ∃ NL : Nat, Hid (N.length = NL) := ⟨_, rfl⟩
  rw [HLL.out] at c2 lc ln hN
  have FA : Fr (fun _ => False) W (W.alloc (.cells #[.int .i64 (17 : Nat), .int .i64 (da : Nat), .int .i64 (db : Nat), .int .i64 (dc : Nat), .int .i64 (dnx : Nat), .int .u64 (dn : Nat), sv dss, .int .i64 (dp : Nat)] 134)) := (Fr.refl _ _).alloc _
  have HB0 := hid (B.fresh FA)
  have HL0 : Hid (LcB (W.alloc (.cells #[.int .i64 (17 : Nat), .int .i64 (da : Nat), .int .i64 (db : Nat), .int .i64 (dc : Nat), .int .i64 (dnx : Nat), .int .u64 (dn : Nat), sv dss, .int .i64 (dp : Nat)] 134)) A1 W.heap.size #[.int .i64 (17 : Nat), .int .i64 (da : Nat), .int .i64 (db : Nat), .int .i64 (dc : Nat), .int .i64 (dnx : Nat), .int .u64 (dn : Nat), sv dss, .int .i64 (dp : Nat)] 134) := LcB.new B.r.own _ _
  have hE : eAd A1.E e = eAd A.E e := by have := B.s.ep he; unfold ePtr at this; injection this
  have HFI : Hid (∀ i, M.find e dss = some i → i < M.envs.length) := fun i hi => findE_lt RO.u _ e (B.eIn he) i hi
  have HFC : Hid (Calls Tryz.prog 117 #[.pointer (eAd A.E e), sv dss] (W.alloc (.cells #[.int .i64 (17 : Nat), .int .i64 (da : Nat), .int .i64 (db : Nat), .int .i64 (dc : Nat), .int .i64 (dnx : Nat), .int .u64 (dn : Nat), sv dss, .int .i64 (dp : Nat)] 134)) fun e' w' => e' = .returned (.pointer (eAd A1.E (M.find e dss))) ∧ w' = (W.alloc (.cells #[.int .i64 (17 : Nat), .int .i64 (da : Nat), .int .i64 (db : Nat), .int .i64 (dc : Nat), .int .i64 (dnx : Nat), .int .u64 (dn : Nat), sv dss, .int .i64 (dp : Nat)] 134))) := by
    rw [← hE]
    exact find_m HB0.out.r RO.u e (B.eIn he) dss
  have HV := hid hvl
  have HTG : Hid (∀ W2, Fr (fun _ => False) (W.alloc (.cells #[.int .i64 (17 : Nat), .int .i64 (da : Nat), .int .i64 (db : Nat), .int .i64 (dc : Nat), .int .i64 (dnx : Nat), .int .u64 (dn : Nat), sv dss, .int .i64 (dp : Nat)] 134)) W2 → Calls Tryz.prog 131 #[.pointer (some ⟨A.bt, 0, none⟩), .int .i64 0, .agg #[.int .i64 3, .int .u64 0, sv dss]] W2 fun e w' => e = .returned (.tuple #[((M.tabs.getD 0 tab0).get (strV dss)).val, .int .i64 0]) ∧ Fr (fun _ => False) W2 w') := fun W2 f => (HB0.out.fresh f).tget TI h0t (k := strV dss) (by simp [wellV, strV, hs]) (fun z => by cases z)
  obtain ⟨ea, HEA⟩ : ∃ ea, Hid (eAd A.E e = ea) := ⟨_, rfl⟩
  rw [HEA.out] at HFC ⊢
  have bn0 : ((n : Int) == 0) = false := by rw [beq_eq_false_iff_ne]; omega
  clear B he hvl FA RO TI h0t hE hs
  cases hF : M.find e dss with
  | some i =>
    have hi := HFI.out i hF
    rw [hF] at HFC HZ
    dsimp only at HZ
    have hg : M.envs[i]? = some (M.envs.getD i en0) := by rw [List.getD_eq_getElem?_getD, List.getElem?_eq_getElem hi]; rfl
    have BE := HB0.out.r.env i _ hg
    obtain ⟨⟨enm, ⟨vt, vn, vs⟩, eup⟩, HEN⟩ : ∃ en, Hid (M.envs.getD i en0 = en) := ⟨_, rfl⟩
    rw [HEN.out] at BE HZ
    have x1 := BE.has.cell 1
    have x2 := BE.has.cell 2
    have x3 := BE.has.cell 3
    simp only [enV, List.getElem?_toArray, List.getElem?_cons_zero, List.getElem?_cons_succ] at x1 x2 x3
    have lx := BE.has.lt
    have e0 : eAd A1.E (some i) = some ⟨A1.E.getD i 0, 0, none⟩ := rfl
    rw [e0] at HFC
    obtain ⟨eb, HEB⟩ : ∃ eb, Hid (A1.E.getD i 0 = eb) := ⟨_, rfl⟩
    rw [HEB.out] at x1 x2 x3 lx HFC
    have HC3 : Hid (Calls Tryz.prog 124 #[.pointer (some ⟨A.br, 0, none⟩), .agg #[.int .i64 vt, .int .u64 vn, sv vs]] _ _) := HB0.out.push (by have := HV.out; omega) ⟨vt, vn, vs⟩
    clear BE hg e0 hi
    go_enter Tryz.func114, Tryz.ntmps114
    go_wp2_with fail
    refine HFC.out.mono ?_
    rintro e3 w3 ⟨rfl, hw3⟩
    obtain ⟨WA, HWA⟩ : ∃ WA, Hid ((W.alloc (.cells #[.int .i64 (17 : Nat), .int .i64 (da : Nat), .int .i64 (db : Nat), .int .i64 (dc : Nat), .int .i64 (dnx : Nat), .int .u64 (dn : Nat), sv dss, .int .i64 (dp : Nat)] 134)) = WA) := ⟨_, rfl⟩
    rw [HWA.out] at hw3 HC3 x1 x2 x3 lx
    rw [hw3]
    clear hw3 w3
    go_wp2_with fail
    refine HC3.out.mono ?_
    rintro e3 w3 ⟨rfl, A3, B3, S3⟩
    have FIN : Hid (Q (.returned (.tuple #[])) w3) := by
      show Q _ _
      rw [← HQ.out, HZ.out]
      exact B3.end
    clear B3 S3
    go_wp2
    refine bodyPost_ret (results_none rfl _ _ _) rfl ?_
    exact FIN.out
  | none =>
    rw [hF] at HFC HZ
    have e0 : eAd A1.E none = none := rfl
    rw [e0] at HFC
    obtain ⟨⟨gt, gn, gs⟩, HGV⟩ : ∃ gv, Hid ((M.tabs.getD 0 tab0).get (strV dss) = gv) := ⟨_, rfl⟩
    rw [HGV.out] at HTG HZ
    dsimp only at HZ
    clear HGV e0
    obtain ⟨c0, c1, l0⟩ := HB0.out.c0
    obtain ⟨WA, HWA⟩ : ∃ WA, Hid ((W.alloc (.cells #[.int .i64 (17 : Nat), .int .i64 (da : Nat), .int .i64 (db : Nat), .int .i64 (dc : Nat), .int .i64 (dnx : Nat), .int .u64 (dn : Nat), sv dss, .int .i64 (dp : Nat)] 134)) = WA) := ⟨_, rfl⟩
    go_enter Tryz.func114, Tryz.ntmps114
    go_wp2_with fail
    refine HFC.out.mono ?_
    rintro e3 w3 ⟨rfl, hw3⟩
    rw [HWA.out] at hw3 HB0 HL0 HTG c0 c1 l0
    rw [hw3]
    clear c0 c2 d0 d1 d2 d3 d4 d5 d6 d7
    have NE := WS.non WA
    have u1 := fun z : WS WA => z.f.cell c1
    have u2 := fun z : WS WA => z.f.cell (show WA.cell? ⟨W.heap.size, 6, none⟩ = some (sv dss) by have := HL0.out.h.cell 6; simpa using this)
    clear c1 hw3 w3
    go_wp2_with fail
    refine wp_region_plan [0, 1, 2, 3, 4, 5, 6] (.two 7 (.quiet [8, 9, 10] (.one 11 .done)) 11 (.one 7 (.quiet [8, 9, 10] .done))) 12 (fun x => ∃ s : WS WA, x = s.y) (by kernel_rfl) (by kernel_rfl) (fun _ _ _ _ _ h => h) ⟨⟨_, (Fr.refl _ _).drew⟩, rfl⟩ [_, _, _, _, _, _, _] rfl _ rfl ?_
    simp only [List.getElem_toArray, List.getElem_cons_succ, List.getElem_cons_zero, List.drop_succ_cons, List.drop_zero, List.length_cons, List.length_nil, Nat.zero_add]
    repeat go_big_quiet_step (fail)
    refine wpQuiet_nil ?_
    clear u1 u2
    refine ⟨fun a' a W3 => ∃ B, a = (((((a'.put (some 90) (.tuple #[.agg #[.int .i64 gt, .int .u64 gn, sv gs], .int .i64 0])).put (some 82) (.tuple #[.agg #[.int .i64 gt, .int .u64 gn, sv gs], .int .i64 0])).put (some 91) (.agg #[.int .i64 gt, .int .u64 gn, sv gs])).put (some 92) (.int .i64 0)).put (some 11) (.pointer (some ⟨B, 0, none⟩))) ∧ Fr (fun _ => False) WA W3 ∧ Has W3 B #[.int .i64 0, .int .u64 0, sv []] 68 ∧ WA.heap.size ≤ B, ?_, ?_⟩
    · rintro a W3 hSW ⟨b, rfl, f4, h4, l4⟩
      clear hSW NE
      simp only [Act.put, List.setIfInBounds_toArray, List.set_cons_succ, List.set_cons_zero]
      obtain ⟨e0, e1, e2⟩ := Has.cells3 (v := nilV) h4
      dsimp only [nilV] at e0 e1 e2
      obtain ⟨e3, e4, e5⟩ := h4.frz3
      have hl4 := h4.lt
      have HFW : Hid (Fr (fun _ => False) WA (((W3.setCell ⟨b, 0, none⟩ (.int .i64 gt)).setCell ⟨b, 1, none⟩ (.int .u64 gn)).setCell ⟨b, 2, none⟩ (sv gs))) := ((f4.setCell (p := ⟨b, 0, none⟩) (.inr l4) _).setCell (p := ⟨b, 1, none⟩) (.inr l4) _).setCell (p := ⟨b, 2, none⟩) (.inr l4) _
      have HHW : Hid (Has (((W3.setCell ⟨b, 0, none⟩ (.int .i64 gt)).setCell ⟨b, 1, none⟩ (.int .u64 gn)).setCell ⟨b, 2, none⟩ (sv gs)) b #[.int .i64 gt, .int .u64 gn, sv gs] 68) := h4.put3 _ _ _
      clear f4 h4 l4
      unfold wpChain
      go_wp2
      refine ⟨⟨⟨_, HFW.out⟩, rfl⟩, ?_⟩
      unfold wpChain
      go_wp2
      refine ⟨⟨⟨_, HFW.out⟩, rfl⟩, ?_⟩
      rw [wpChain_zero]
      obtain ⟨w6, HW6⟩ : ∃ w6, Hid ((((W3.setCell ⟨b, 0, none⟩ (.int .i64 gt)).setCell ⟨b, 1, none⟩ (.int .u64 gn)).setCell ⟨b, 2, none⟩ (sv gs)) = w6) := ⟨_, rfl⟩
      rw [HW6.out] at HFW HHW
      have e6 : (((W3.setCell ⟨b, 0, none⟩ (.int .i64 gt)).setCell ⟨b, 1, none⟩ (.int .u64 gn)).setCell ⟨b, 2, none⟩ (.string ⟨gs.toArray⟩)) = w6 := HW6.out
      rw [e6]
      clear e0 e1 e2 e3 e4 e5 hl4 HW6 e6
      obtain ⟨q0, q1, q2⟩ := Has.cells3 (v := ⟨gt, gn, gs⟩) HHW.out
      have ql := HHW.out.lt
      have HC3 : Hid (Calls Tryz.prog 124 #[.pointer (some ⟨A.br, 0, none⟩), .agg #[.int .i64 gt, .int .u64 gn, sv gs]] _ _) := (HB0.out.fresh HFW.out).push (by have := HV.out; omega) ⟨gt, gn, gs⟩
      clear W3
      go_wp2_with fail
      refine HC3.out.mono ?_
      rintro e7 w7 ⟨rfl, A7, B7, S7⟩
      have FIN : Hid (Q (.returned (.tuple #[])) w7) := by
        show Q _ _
        rw [← HQ.out, HZ.out]
        exact B7.end
      clear B7 S7 q0 q1 q2 ql
      go_wp2
      go_end0
      exact FIN.out
    · intro G HG
      refine ⟨⟨_, rfl, ?_⟩, ⟨_, rfl, ?_⟩⟩
      · go_wp2_with fail
        refine (HTG.out _ ((Fr.refl _ WA).drew)).mono ?_
        rintro e' w5 ⟨rfl, f5⟩
        have f6 : Fr (fun _ => False) WA w5 := ((Fr.refl _ WA).drew).trans f5 (fun _ _ x => x)
        clear f5
        go_wp2_with fail
        refine ⟨⟨⟨_, f6⟩, rfl⟩, [_, _, _], rfl, ?_⟩
        simp only [List.getElem_toArray, List.getElem_cons_succ, List.getElem_cons_zero]
        repeat go_big_quiet_step (fail)
        refine wpQuiet_nil ?_
        refine ⟨_, rfl, ?_⟩
        go_wp2_with fail
        refine ⟨⟨⟨_, f6.alloc _⟩, rfl⟩, ?_⟩
        show G _ _
        rw [HG.out]
        exact ⟨w5.heap.size, by kernel_rfl, f6.alloc _, Has.new _ _ _, f6.size⟩
      · go_wp2_with fail
        refine ⟨⟨⟨_, ((Fr.refl _ WA).drew).alloc _⟩, rfl⟩, _, rfl, ?_⟩
        go_wp2_with fail
        refine (HTG.out _ (((Fr.refl _ WA).drew).alloc _)).mono ?_
        rintro e' w5 ⟨rfl, f5⟩
        have f6 : Fr (fun _ => False) WA w5 := (((Fr.refl _ WA).drew).alloc _).trans f5 (fun _ _ x => x)
        have h6 : Has w5 WA.heap.size #[.int .i64 0, .int .u64 0, sv []] 68 := (Has.newC WA.drew _ _ rfl).fr f5 (fun x => x)
        clear f5
        go_wp2_with fail
        refine ⟨⟨⟨_, f6⟩, rfl⟩, [_, _, _], rfl, ?_⟩
        simp only [List.getElem_toArray, List.getElem_cons_succ, List.getElem_cons_zero]
        repeat go_big_quiet_step (fail)
        refine wpQuiet_nil ?_
        show G _ _
        rw [HG.out]
        exact ⟨WA.heap.size, by kernel_rfl, f6, h6, Nat.le_refl _⟩
end
end Go.Proofs.Qxb6500574aGreatDoor
