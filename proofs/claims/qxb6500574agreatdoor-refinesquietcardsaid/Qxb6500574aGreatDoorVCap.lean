/-
  THE WALK of vm: capture.
-/
import Derived.Test.Qxb6500574aGreatDoorVCap0
import Derived.Test.Qxb6500574aGreatDoorVPsh
namespace Go.Proofs.Qxb6500574aGreatDoor
open Go Go.RowKit
set_option linter.unusedVariables false
set_option linter.unusedSimpArgs false

def CapPost (m : VMD) (i a : Nat) (w : World) (A : VL) (f e : Nat) (e' : Ending) (w' : World) : Prop := e' = .returned (.int .i64 (capture m i a).1) ∧ ∃ A', VRep w' A' (capture m i a).2 f e ∧ VSt (fun k => (k = 1 ∨ k = 12) ∨ isT i k) w A w' A' ∧ FK A A' i
section
variable {w w1 w2 : World} {A : VL} {m : VMD} {f e i : Nat} {t : ThD} {l : ThL}
set_option maxRecDepth 100000
set_option maxHeartbeats 1000000
theorem capture_any (h : VRep w A m f e) (hi : m.ths[i]? = some t) (ok : OpnOk m t) (a : Nat) (ha : a ≤ 100000) (hcl : m.cells.length ≤ 10000) (hol : t.opn.length ≤ 10000) :
    Calls Tryz.prog 308 #[.pointer (some ⟨A.b, 0, none⟩), .int .i64 i, .pointer (some ⟨A.bT, i * 5, none⟩), .int .i64 a] w (CapPost m i a w A f e) := by
  obtain ⟨l, hx⟩ := h.lays hi
  have c4 := h.thCell hi hx (j := 4) (by omega)
  simp only [thCells, List.getElem?_cons_succ, List.getElem?_cons_zero, Sl.v] at c4
  have d8 := h.cell0 8
  simp only [vmCells, List.getElem?_toArray, List.getElem?_cons_succ, List.getElem?_cons_zero, Sl.v] at d8
  have hb := h.bl
  have hT := h.ths.here.has.lt
  have H : Hid (VRep w A m f e) := h
  have HI : Hid (m.ths[i]? = some t) := hi
  have HX : Hid (A.X[i]? = some l) := hx
  have OK : Hid (OpnOk m t) := ok
  have hcap : capture m i a = (let j := capI m.cells a t.opn.length t.opn
    if j > 0 ∧ (m.cells.getD (t.opn.getD (j - 1) 0) ce0).pos = a then (t.opn.getD (j - 1) 0, m)
    else (m.cells.length, { m with cells := m.cells ++ [⟨i, a, nilV⟩], ths := m.ths.set i { t with opn := t.opn.take j ++ [m.cells.length] ++ t.opn.drop j } })) := by
    simp only [capture, VMD.th_some hi]
  have HCAP : Hid (capture m i a = _) := hcap
  obtain ⟨N, HN⟩ : ∃ N : Nat, Hid (t.opn.length = N) := ⟨_, rfl⟩
  obtain ⟨NC, HNC⟩ : ∃ N : Nat, Hid (m.cells.length = N) := ⟨_, rfl⟩
  obtain ⟨J, HJ⟩ : ∃ J, Hid (capI m.cells a t.opn.length t.opn = J) := ⟨_, rfl⟩
  rw [HN.out] at c4 hol HJ
  rw [HNC.out] at d8 hcl
  clear h hi hx ok hcap
  go_enter Tryz.func308, Tryz.ntmps308
  go_wp2_with fail
  go_loopw [9] (fun u wr => ∃ (n : Nat), n ≤ N ∧ u = .int .i64 n ∧ Hid (Fr (fun _ => False) w wr) ∧ Hid (capI m.cells a n t.opn = J)) (fun u _ => (intOf u).toNat)
  case atStart => exact ⟨N, Nat.le_refl _, rfl, Fr.refl _ _, HJ⟩
  case round =>
    obtain ⟨n, hn, rfl, HW, HC⟩ := hrel
    have R1 : VRep wr A m f e := H.out.fresh HW.out
    have HR1 : Hid (VRep wr A m f e) := R1
    have c4 := R1.thCell HI.out HX.out (j := 4) (by omega)
    simp only [thCells, List.getElem?_cons_succ, List.getElem?_cons_zero, Sl.v, HN.out] at c4
    have d8 := R1.cell0 8
    simp only [vmCells, List.getElem?_toArray, List.getElem?_cons_succ, List.getElem?_cons_zero, Sl.v, HNC.out] at d8
    have hb := R1.bl
    have hT := R1.ths.here.has.lt
    by_cases hn0 : n = 0
    · subst hn0
      have HJ0 : Hid (J = 0) := HC.out.symm
      clear R1
      have hJN : 0 ≤ N := by omega
      have FIN0 : capture m i a = (NC, { m with cells := m.cells ++ [⟨i, a, nilV⟩], ths := m.ths.set i { t with opn := t.opn.take (0) ++ [NC] ++ t.opn.drop (0) } }) := by
        have h1 := HCAP.out
        simp only [HN.out, HJ.out, HJ0.out, HNC.out] at h1
        rw [h1, if_neg (by omega)]
      have FIN : Hid (capture m i a = (NC, { m with cells := m.cells ++ [⟨i, a, nilV⟩], ths := m.ths.set i { t with opn := t.opn.take (0) ++ [NC] ++ t.opn.drop (0) } })) := FIN0
      clear FIN0
      go_wp2_with fail
      refine wp_region_quiet_lit (by kernel_rfl) (by kernel_rfl) ?_
      repeat go_big_quiet_step (fail)
      refine wpQuiet_nil ?_
      rintro w' ⟨nq, rfl⟩
      go_wp2_with fail
      refine wp_region_quiet_lit (by kernel_rfl) (by kernel_rfl) ?_
      repeat go_big_quiet_step (fail)
      refine wpQuiet_nil ?_
      rintro w' ⟨nq2, rfl⟩
      have F2 : Fr (fun _ => False) wr ((wr.drewN nq).drewN nq2) := ((Fr.refl _ _).drewN nq).drewN nq2
      obtain ⟨W, HWW⟩ : ∃ W : World, Hid ((wr.drewN nq).drewN nq2 = W) := ⟨_, rfl⟩
      rw [HWW.out] at F2 ⊢
      clear HWW
      have R2 : VRep W A m f e := HR1.out.fresh F2
      have HR2 : Hid (VRep W A m f e) := R2
      have HF2 : Hid (Fr (fun _ => False) w W) := HW.out.trans F2 (fun _ _ x => x)
      have d8 := R2.cell0 8
      simp only [vmCells, List.getElem?_toArray, List.getElem?_cons_succ, List.getElem?_cons_zero, Sl.v, HNC.out] at d8
      have z8 := R2.core.here.has.frozen 8
      have hb := R2.bl
      have HRC : Hid (∀ b, World.ownsRow (W.alloc b) 0 274 5 (A.C.cells.v m.cells.length) m.cells.length (m.cells.flatMap ceCells)) := fun b => owns_fr HR2.out.core.cells.own ((Fr.refl (fun _ => False) W).alloc b) (fun _ _ x => x)
      clear R2 F2
      go_wp2_with (at_builtin; go_must (refine wpList_appN row_cells _ rfl (.tmp 77) (.tmp 81) rfl (A.C.cells.v m.cells.length) m.cells.length (m.cells.flatMap ceCells) (by rw [HNC.out]; rfl) (HRC.out _) W.heap.size 1 1 (ceCells ⟨i, a, nilV⟩) rfl (Has.new _ _ _) rfl (by decide) (ceCells_oneC _) ?bd ?go))
      case bd => rw [HNC.out]; omega
      case go =>
        intro g cap w2 q1 q2 q3 q4
        have hq3 : (A.C.cells.v m.cells.length).ownBlock = some g ∨ W.heap.size ≤ g := by
          rcases q3 with q3 | q3
          · exact .inl q3
          · right; rw [q3]; simp
        obtain ⟨hh, r1, r2⟩ := HR2.out.app_cells ⟨i, a, nilV⟩ ((Fr.refl _ W).alloc _) q1 q2 hq3 q4
        rw [HNC.out] at r1 r2
        rw [HNC.out]
        obtain ⟨A2, HA2⟩ : ∃ A2 : VL, Hid (({ A with o := upd A.o g 12, C := { A.C with cells := ⟨some ⟨g, 0, none⟩, cap⟩ } } : VL) = A2) := ⟨_, rfl⟩
        have HX2 : Hid (A2.X[i]? = some l) := by rw [← HA2.out]; exact HX.out
        have hbT : A2.bT = A.bT := by rw [← HA2.out]
        rw [HA2.out] at r1 r2
        obtain ⟨m2, HM2⟩ : ∃ m2 : VMD, Hid (({ m with cells := m.cells ++ [⟨i, a, nilV⟩] } : VMD) = m2) := ⟨_, rfl⟩
        have HI2 : Hid (m2.ths[i]? = some t) := by rw [← HM2.out]; exact HI.out
        rw [HM2.out] at r1
        have y8 := hh.frozen 8
        have y9 := hh.cell 8
        simp only [vmCells, List.getElem?_toArray, List.getElem?_cons_succ, List.getElem?_cons_zero, Sl.v, HNC.out] at y9
        have hh3 := hh.lt
        obtain ⟨W3, HW3⟩ : ∃ W3 : World, Hid (w2.setCell ⟨A.b, 8, none⟩ (.slice (some ⟨g, 0, none⟩) (NC + 1) cap) = W3) := ⟨_, rfl⟩
        rw [HW3.out] at r1 r2
        have HR3 : Hid (VRep W3 A2 m2 f e) := r1
        have HS3 : Hid (VSt (fun k => (k = 1 ∨ k = 12) ∨ isT i k) w A W3 A2) := (VSt.fresh HF2.out).trans (r2.weaken (fun k hk => .inl hk))
        have c4 := r1.thCell HI2.out HX2.out (j := 4) (by omega)
        simp only [thCells, List.getElem?_cons_succ, List.getElem?_cons_zero, Sl.v, HN.out, hbT] at c4
        have hne : A.bT ≠ A.b := fun e => by have h1 := HR2.out.core.here.lb; have h2 := HR2.out.ths.here.lb; rw [e] at h2; omega
        have hne' : A.b ≠ A.bT := fun e => hne e.symm
        have z4 := r1.ths.frozen (i * 5 + 4)
        have hT3 := r1.ths.here.has.lt
        rw [hbT] at z4 hT3
        rw [← HW3.out, cell_setNe hne] at c4
        have hT2 : A.bT < w2.heap.size := by rw [← HW3.out] at hT3; simpa using hT3
        have hWs : W3.heap.size = w2.heap.size := by rw [← HW3.out]; simp
        have HRP : Hid (∀ b, World.ownsRow (W3.alloc b) 0 3 1 (l.p.v t.opn.length) t.opn.length (t.opn.flatMap nCells)) := fun b => owns_fr (HR3.out.one HI2.out HX2.out).p.own ((Fr.refl (fun _ => False) W3).alloc b) (fun _ _ x => x)
        clear q1 q2 q3 q4 hq3 hh r1 r2 HA2
        go_wp2_with (at_builtin; rw [HW3.out]; go_must (refine wpList_appN row_upix _ rfl (.tmp 89) (.tmp 90) rfl (l.p.v t.opn.length) t.opn.length (t.opn.flatMap nCells) (by rw [HN.out]; rfl) (HRP.out _) w2.heap.size 1 1 (nCells 0) rfl (Has.newC _ _ _ hWs.symm) rfl (by decide) (nCells_oneC _) ?bd2 ?go2))
        case bd2 => rw [HN.out]; omega
        case go2 =>
          intro g2 cap2 w4 q1 q2 q3 q4
          have hq3 : (l.p.v t.opn.length).ownBlock = some g2 ∨ W3.heap.size ≤ g2 := by
            rcases q3 with q3 | q3
            · exact .inl q3
            · right; rw [q3, hWs]; exact Nat.le_succ _
          obtain ⟨hh, r1, r2⟩ := HR3.out.pushedP HI2.out HX2.out 0 ((Fr.refl _ W3).alloc _) q1 q2 hq3 q4
          rw [HN.out, hbT] at r1 r2
          rw [hbT] at hh
          rw [HN.out]
          have e3 := hh.frozen (i * 5 + 4)
          have e4 : w4.cell? ⟨A.bT, i * 5 + 4, none⟩ = some (.slice l.p.a N l.p.c) := by
            rw [hh.cell, List.getElem?_toArray, flatMap_at _ 5 thCells_len _ i 4 _ (HR3.out.zipAt HI2.out HX2.out) (by omega)]
            simp [thCells, HN.out]
          have hT4 := hh.lt
          obtain ⟨A5, HA5⟩ : ∃ A5 : VL, Hid (({ A2 with o := upd A2.o g2 (22 + 3 * i), bT := A.bT, X := A2.X.set i { l with p := ⟨some ⟨g2, 0, none⟩, cap2⟩ } } : VL) = A5) := ⟨_, rfl⟩
          obtain ⟨m5, HM5⟩ : ∃ m5 : VMD, Hid (m2.setTh i { t with opn := t.opn ++ [0] } = m5) := ⟨_, rfl⟩
          obtain ⟨W5, HW5⟩ : ∃ W5 : World, Hid (w4.setCell ⟨A.bT, i * 5 + 4, none⟩ (.slice (some ⟨g2, 0, none⟩) (N + 1) cap2) = W5) := ⟨_, rfl⟩
          rw [HA5.out, HM5.out, HW5.out] at r1
          rw [HA5.out, HW5.out] at r2
          have hbT5 : A5.bT = A.bT := by have := HA5.out; rw [← this]
          have hX5 : A5.X[i]? = some { l with p := ⟨some ⟨g2, 0, none⟩, cap2⟩ } := by rw [← HA5.out]; simp [(List.getElem?_eq_some_iff.1 HX2.out).1]
          have HX5 : Hid (A5.X[i]? = some { l with p := ⟨some ⟨g2, 0, none⟩, cap2⟩ }) := hX5
          have hI5 : m5.ths[i]? = some { t with opn := t.opn ++ [0] } := by rw [← HM5.out]; simp [VMD.setTh, (List.getElem?_eq_some_iff.1 HI2.out).1]
          have HI5 : Hid (m5.ths[i]? = some { t with opn := t.opn ++ [0] }) := hI5
          have HS5 : Hid (VSt (fun k => (k = 1 ∨ k = 12) ∨ isT i k) w A W5 A5) := HS3.out.trans (r2.weaken (fun k hk => .inr hk))
          have hJl : 0 ≤ t.opn.length := by rw [HN.out]; omega
          have R6 : VRep W5.drew A5 m5 f e := r1.fresh (Fr.refl _ _).drew
          obtain ⟨cur', hcp, RM, SM, RF, SF⟩ := R6.insP HI5.out HX5.out (g := g2) rfl (xs := t.opn) (z := 0) (J := 0) rfl hJl NC
          rw [HN.out] at hcp
          have HCP : Hid (∀ ty q n1 c1 s n2 c2, (q = 0 + 1 ∨ (q = 0 ∧ N = 0)) → n1 = N - 0 → s = 0 → n2 = N + 1 - 0 → (Builtin.copy_ #[88, 88] ty #[.slice (some ⟨g2, q, none⟩) n1 c1, .slice (some ⟨g2, s, none⟩) n2 c2]).run Tryz.prog W5.drew = .ok (.int .i64 (N - 0 : Nat)) (W5.drew.setRow g2 cur')) := hcp
          have hm5 : m5.setTh i { t with opn := t.opn.take 0 ++ [NC] ++ t.opn.drop 0 } = { m with cells := m.cells ++ [⟨i, a, nilV⟩], ths := m.ths.set i { t with opn := t.opn.take 0 ++ [NC] ++ t.opn.drop 0 } } := by rw [← HM5.out, ← HM2.out]; simp [VMD.setTh]
          rw [hm5] at RF
          have HRF : Hid (VRep ((W5.drew.setRow g2 cur').setCell ⟨g2, 0, none⟩ (.int .i64 NC)) A5 { m with cells := m.cells ++ [⟨i, a, nilV⟩], ths := m.ths.set i { t with opn := t.opn.take 0 ++ [NC] ++ t.opn.drop 0 } } f e) := RF
          have HSF : Hid (VSt (fun k => (k = 1 ∨ k = 12) ∨ isT i k) w A ((W5.drew.setRow g2 cur').setCell ⟨g2, 0, none⟩ (.int .i64 NC)) A5) := (HS5.out.trans (VSt.fresh (Fr.refl _ _).drew)).trans (SF.weaken (fun k hk => .inr hk))
          have c6 := R6.thCell HI5.out HX5.out (j := 4) (by omega)
          simp only [thCells, List.getElem?_cons_succ, List.getElem?_cons_zero, Sl.v, hbT5, List.length_append, List.length_singleton, HN.out] at c6
          have hT6 := R6.ths.here.has.lt
          rw [hbT5] at hT6
          have hI7 : (m5.setTh i { t with opn := t.opn.take 0 ++ [(t.opn ++ [0]).getD 0 0] ++ t.opn.drop 0 }).ths[i]? = some { t with opn := t.opn.take 0 ++ [(t.opn ++ [0]).getD 0 0] ++ t.opn.drop 0 } := by simp [VMD.setTh, (List.getElem?_eq_some_iff.1 HI5.out).1]
          have hlen7 : (t.opn.take 0 ++ [(t.opn ++ [0]).getD 0 0] ++ t.opn.drop 0).length = N + 1 := by simp only [List.length_append, List.length_take, List.length_drop, List.length_singleton, HN.out]; omega
          have c7 := RM.thCell hI7 hX5 (j := 4) (by omega)
          simp only [thCells, List.getElem?_cons_succ, List.getElem?_cons_zero, Sl.v, hbT5, hlen7] at c7
          have hT7 := RM.ths.here.has.lt
          rw [hbT5] at hT7
          obtain ⟨u7, hu7⟩ : ∃ u, (t.opn.take 0 ++ [(t.opn ++ [0]).getD 0 0] ++ t.opn.drop 0)[0]? = some u := ⟨_, List.getElem?_eq_getElem (by rw [hlen7]; omega)⟩
          obtain ⟨g7, o1, o2, o3, o4, o5, o6⟩ := (RM.one hI7 hX5).p.at nCells_len hu7
          have o1' : g2 = g7 := by simp at o1; exact o1
          subst o1'
          have o50 := o5 0 (by omega)
          have o60 := o6 0
          simp only [nCells, List.getElem?_cons_zero, Nat.add_zero, Nat.mul_one] at o50
          have hcap2 : N + 1 ≤ cap2 := by simp only [hlen7] at o2; exact o2
          obtain ⟨W7, HW7⟩ : ∃ W7 : World, Hid (W5.drew.setRow g2 cur' = W7) := ⟨_, rfl⟩
          rw [HW7.out] at c7 hT7 o4 o50 o60 HCP HRF HSF
          clear q1 q2 q3 q4 hq3 hh r1 r2 R6 RM SM RF SF o1 o2 o3 o5 o6 hu7 hlen7 HX2 hbT hcp hm5 hI7 hI5 hX5 HW7 hbT5
          go_wp2_with fail
          rw [HW5.out]
          refine wp_region_tail 13 (by kernel_rfl) (by kernel_rfl) (fun _ _ _ _ _ h => h) ?_
          simp only [List.take_succ_cons, List.take_zero, List.drop_succ_cons, List.drop_zero]
          repeat go_big_quiet_step (fail)
          refine wpQuiet_nil ?_
          go_wp2_with fail
          all_goals
            first
              | rw [HCP.out _ _ _ _ _ _ _ (.inl rfl) (by omega) (by omega) (by omega)]
              | rw [HCP.out _ _ _ _ _ _ _ (.inr ⟨rfl, by omega⟩) (by omega) (by omega) (by omega)]
            clear HCP
            go_wp2_with fail
            go_ret
            refine ⟨by rw [FIN.out]; rfl, A5, ?_, ?_, FK.of HX.out HX5.out rfl⟩
            · rw [FIN.out]; exact HRF.out
            · exact HSF.out
    · obtain ⟨k, rfl⟩ : ∃ k, n = k + 1 := ⟨n - 1, by omega⟩
      obtain ⟨c, hc⟩ : ∃ c, t.opn[k]? = some c := ⟨_, List.getElem?_eq_getElem (by rw [HN.out]; omega)⟩
      obtain ⟨ce, hce, _⟩ := OK.out.ok c (List.mem_of_getElem? hc)
      obtain ⟨go, o1, o2, o3, o4, o5, o6⟩ := (R1.one HI.out HX.out).p.at nCells_len hc
      obtain ⟨gc, q1, q2, q3, q4, q5, q6⟩ := R1.core.cells.at ceCells_len hce
      have o50 := o5 0 (by omega)
      have q51 := q5 1 (by omega)
      simp only [nCells, ceCells, List.getElem?_cons_succ, List.getElem?_cons_zero, Nat.add_zero, Nat.mul_one] at o50 q51
      have o1' : l.p.a = some ⟨go, 0, none⟩ := o1
      have o2' : t.opn.length ≤ l.p.c := o2
      rw [HN.out] at o2'
      rw [HNC.out] at q2
      rw [o1'] at c4
      rw [q1] at d8
      have ncl := (List.getElem?_eq_some_iff.1 hce).1
      rw [HNC.out] at ncl
      have hcv : capI m.cells a (k + 1) t.opn = if ce.pos > a then capI m.cells a k t.opn else k + 1 := by
        have : capI m.cells a (k + 1) t.opn = if (m.cells.getD (t.opn.getD k 0) ce0).pos > a then capI m.cells a k t.opn else k + 1 := rfl
        rw [this]
        simp [hc, hce]
      have HCV : Hid (capI m.cells a (k + 1) t.opn = if ce.pos > a then capI m.cells a k t.opn else k + 1) := hcv
      have HGD : Hid (t.opn.getD k 0 = c ∧ m.cells.getD c ce0 = ce) := ⟨by simp [hc], by simp [hce]⟩
      clear hcv hc hce o5 o6 q5 q6 R1 o1 o1' q1
      obtain ⟨ps, HP⟩ : ∃ N : Nat, Hid (ce.pos = N) := ⟨_, rfl⟩
      rw [HP.out] at q51 HCV
      have hk1 : (0 : Int) < ((k + 1 : Nat) : Int) := by omega
      have hk2 : ((k + 1 : Nat) : Int) - 1 = (k : Int) := by omega
      have hk3 : (k : Int) + 1 - 1 = (k : Int) := by omega
      by_cases hgt : a < ps
      · have hgt2 : (a : Int) < (ps : Int) := by omega
        have HN2 : Hid (capI m.cells a k t.opn = J) := by
          have := HCV.out
          rw [if_pos hgt] at this
          rw [← this]
          exact HC.out
        go_wp2_with fail
        refine wp_region_quiet_lit (by kernel_rfl) (by kernel_rfl) ?_
        repeat go_big_quiet_step (fail)
        refine wpQuiet_nil ?_
        rintro w' ⟨nq, rfl⟩
        go_wp2_with fail
        exact ⟨⟨k, by omega, by go_num, HW.out.drewN _, HN2⟩, by simp [intOf]⟩
      · have HJ0 : Hid (J = k + 1) := by
          have := HCV.out
          rw [if_neg hgt] at this
          rw [← this]
          exact HC.out.symm
        by_cases heq : ps = a
        · have heq2 : ((ps : Int) == (a : Int)) = true := by rw [heq]; simp
          have FIN0 : capture m i a = (c, m) := by
            have h1 := HCAP.out
            simp only [HN.out, HJ.out, HJ0.out, Nat.add_sub_cancel, HGD.out.1, HGD.out.2, HP.out, heq] at h1
            rw [h1]
            simp
          have FIN : Hid (capture m i a = (c, m)) := FIN0
          clear hgt heq FIN0
          have hgt2 : ¬ (a : Int) < (ps : Int) := by simp at heq2; omega
          go_wp2_with fail
          refine wp_region_quiet_lit (by kernel_rfl) (by kernel_rfl) ?_
          repeat go_big_quiet_step (fail)
          refine wpQuiet_nil ?_
          rintro w' ⟨nq, rfl⟩
          go_wp2_with fail
          refine wp_region_quiet_lit (by kernel_rfl) (by kernel_rfl) ?_
          repeat go_big_quiet_step (fail)
          refine wpQuiet_nil ?_
          rintro w' ⟨nq2, rfl⟩
          go_wp2_with fail
          go_ret
          refine ⟨?_, A, ?_, ?_, FK.refl _ _⟩
          · simp only [FIN.out]; rfl
          · rw [FIN.out]
            exact HR1.out.fresh ((Fr.refl _ _).drewN _)
          · exact VSt.fresh (HW.out.drewN _)
        · have hgt2 : ¬ (a : Int) < (ps : Int) := by omega
          have heq2 : ((ps : Int) == (a : Int)) = false := by rw [beq_eq_false_iff_ne]; omega
          have hJN : k + 1 ≤ N := by omega
          have FIN0 : capture m i a = (NC, { m with cells := m.cells ++ [⟨i, a, nilV⟩], ths := m.ths.set i { t with opn := t.opn.take (k + 1) ++ [NC] ++ t.opn.drop (k + 1) } }) := by
            have h1 := HCAP.out
            simp only [HN.out, HJ.out, HJ0.out, HNC.out] at h1
            rw [h1, if_neg (by simp only [Nat.add_sub_cancel, HGD.out.1, HGD.out.2, HP.out]; omega)]
          have FIN : Hid (capture m i a = (NC, { m with cells := m.cells ++ [⟨i, a, nilV⟩], ths := m.ths.set i { t with opn := t.opn.take (k + 1) ++ [NC] ++ t.opn.drop (k + 1) } })) := FIN0
          clear FIN0
          go_wp2_with fail
          refine wp_region_quiet_lit (by kernel_rfl) (by kernel_rfl) ?_
          repeat go_big_quiet_step (fail)
          refine wpQuiet_nil ?_
          rintro w' ⟨nq, rfl⟩
          go_wp2_with fail
          refine wp_region_quiet_lit (by kernel_rfl) (by kernel_rfl) ?_
          repeat go_big_quiet_step (fail)
          refine wpQuiet_nil ?_
          rintro w' ⟨nq2, rfl⟩
          have F2 : Fr (fun _ => False) wr ((wr.drewN nq).drewN nq2) := ((Fr.refl _ _).drewN nq).drewN nq2
          obtain ⟨W, HWW⟩ : ∃ W : World, Hid ((wr.drewN nq).drewN nq2 = W) := ⟨_, rfl⟩
          rw [HWW.out] at F2 ⊢
          clear HWW
          have R2 : VRep W A m f e := HR1.out.fresh F2
          have HR2 : Hid (VRep W A m f e) := R2
          have HF2 : Hid (Fr (fun _ => False) w W) := HW.out.trans F2 (fun _ _ x => x)
          have d8 := R2.cell0 8
          simp only [vmCells, List.getElem?_toArray, List.getElem?_cons_succ, List.getElem?_cons_zero, Sl.v, HNC.out] at d8
          have z8 := R2.core.here.has.frozen 8
          have hb := R2.bl
          have HRC : Hid (∀ b, World.ownsRow (W.alloc b) 0 274 5 (A.C.cells.v m.cells.length) m.cells.length (m.cells.flatMap ceCells)) := fun b => owns_fr HR2.out.core.cells.own ((Fr.refl (fun _ => False) W).alloc b) (fun _ _ x => x)
          clear R2 F2
          go_wp2_with (at_builtin; go_must (refine wpList_appN row_cells _ rfl (.tmp 77) (.tmp 81) rfl (A.C.cells.v m.cells.length) m.cells.length (m.cells.flatMap ceCells) (by rw [HNC.out]; rfl) (HRC.out _) W.heap.size 1 1 (ceCells ⟨i, a, nilV⟩) rfl (Has.new _ _ _) rfl (by decide) (ceCells_oneC _) ?bd ?go))
          case bd => rw [HNC.out]; omega
          case go =>
            intro g cap w2 q1 q2 q3 q4
            have hq3 : (A.C.cells.v m.cells.length).ownBlock = some g ∨ W.heap.size ≤ g := by
              rcases q3 with q3 | q3
              · exact .inl q3
              · right; rw [q3]; simp
            obtain ⟨hh, r1, r2⟩ := HR2.out.app_cells ⟨i, a, nilV⟩ ((Fr.refl _ W).alloc _) q1 q2 hq3 q4
            rw [HNC.out] at r1 r2
            rw [HNC.out]
            obtain ⟨A2, HA2⟩ : ∃ A2 : VL, Hid (({ A with o := upd A.o g 12, C := { A.C with cells := ⟨some ⟨g, 0, none⟩, cap⟩ } } : VL) = A2) := ⟨_, rfl⟩
            have HX2 : Hid (A2.X[i]? = some l) := by rw [← HA2.out]; exact HX.out
            have hbT : A2.bT = A.bT := by rw [← HA2.out]
            rw [HA2.out] at r1 r2
            obtain ⟨m2, HM2⟩ : ∃ m2 : VMD, Hid (({ m with cells := m.cells ++ [⟨i, a, nilV⟩] } : VMD) = m2) := ⟨_, rfl⟩
            have HI2 : Hid (m2.ths[i]? = some t) := by rw [← HM2.out]; exact HI.out
            rw [HM2.out] at r1
            have y8 := hh.frozen 8
            have y9 := hh.cell 8
            simp only [vmCells, List.getElem?_toArray, List.getElem?_cons_succ, List.getElem?_cons_zero, Sl.v, HNC.out] at y9
            have hh3 := hh.lt
            obtain ⟨W3, HW3⟩ : ∃ W3 : World, Hid (w2.setCell ⟨A.b, 8, none⟩ (.slice (some ⟨g, 0, none⟩) (NC + 1) cap) = W3) := ⟨_, rfl⟩
            rw [HW3.out] at r1 r2
            have HR3 : Hid (VRep W3 A2 m2 f e) := r1
            have HS3 : Hid (VSt (fun k => (k = 1 ∨ k = 12) ∨ isT i k) w A W3 A2) := (VSt.fresh HF2.out).trans (r2.weaken (fun k hk => .inl hk))
            have c4 := r1.thCell HI2.out HX2.out (j := 4) (by omega)
            simp only [thCells, List.getElem?_cons_succ, List.getElem?_cons_zero, Sl.v, HN.out, hbT] at c4
            have hne : A.bT ≠ A.b := fun e => by have h1 := HR2.out.core.here.lb; have h2 := HR2.out.ths.here.lb; rw [e] at h2; omega
            have hne' : A.b ≠ A.bT := fun e => hne e.symm
            have z4 := r1.ths.frozen (i * 5 + 4)
            have hT3 := r1.ths.here.has.lt
            rw [hbT] at z4 hT3
            rw [← HW3.out, cell_setNe hne] at c4
            have hT2 : A.bT < w2.heap.size := by rw [← HW3.out] at hT3; simpa using hT3
            have hWs : W3.heap.size = w2.heap.size := by rw [← HW3.out]; simp
            have HRP : Hid (∀ b, World.ownsRow (W3.alloc b) 0 3 1 (l.p.v t.opn.length) t.opn.length (t.opn.flatMap nCells)) := fun b => owns_fr (HR3.out.one HI2.out HX2.out).p.own ((Fr.refl (fun _ => False) W3).alloc b) (fun _ _ x => x)
            clear q1 q2 q3 q4 hq3 hh r1 r2 HA2
            go_wp2_with (at_builtin; rw [HW3.out]; go_must (refine wpList_appN row_upix _ rfl (.tmp 89) (.tmp 90) rfl (l.p.v t.opn.length) t.opn.length (t.opn.flatMap nCells) (by rw [HN.out]; rfl) (HRP.out _) w2.heap.size 1 1 (nCells 0) rfl (Has.newC _ _ _ hWs.symm) rfl (by decide) (nCells_oneC _) ?bd2 ?go2))
            case bd2 => rw [HN.out]; omega
            case go2 =>
              intro g2 cap2 w4 q1 q2 q3 q4
              have hq3 : (l.p.v t.opn.length).ownBlock = some g2 ∨ W3.heap.size ≤ g2 := by
                rcases q3 with q3 | q3
                · exact .inl q3
                · right; rw [q3, hWs]; exact Nat.le_succ _
              obtain ⟨hh, r1, r2⟩ := HR3.out.pushedP HI2.out HX2.out 0 ((Fr.refl _ W3).alloc _) q1 q2 hq3 q4
              rw [HN.out, hbT] at r1 r2
              rw [hbT] at hh
              rw [HN.out]
              have e3 := hh.frozen (i * 5 + 4)
              have e4 : w4.cell? ⟨A.bT, i * 5 + 4, none⟩ = some (.slice l.p.a N l.p.c) := by
                rw [hh.cell, List.getElem?_toArray, flatMap_at _ 5 thCells_len _ i 4 _ (HR3.out.zipAt HI2.out HX2.out) (by omega)]
                simp [thCells, HN.out]
              have hT4 := hh.lt
              obtain ⟨A5, HA5⟩ : ∃ A5 : VL, Hid (({ A2 with o := upd A2.o g2 (22 + 3 * i), bT := A.bT, X := A2.X.set i { l with p := ⟨some ⟨g2, 0, none⟩, cap2⟩ } } : VL) = A5) := ⟨_, rfl⟩
              obtain ⟨m5, HM5⟩ : ∃ m5 : VMD, Hid (m2.setTh i { t with opn := t.opn ++ [0] } = m5) := ⟨_, rfl⟩
              obtain ⟨W5, HW5⟩ : ∃ W5 : World, Hid (w4.setCell ⟨A.bT, i * 5 + 4, none⟩ (.slice (some ⟨g2, 0, none⟩) (N + 1) cap2) = W5) := ⟨_, rfl⟩
              rw [HA5.out, HM5.out, HW5.out] at r1
              rw [HA5.out, HW5.out] at r2
              have hbT5 : A5.bT = A.bT := by have := HA5.out; rw [← this]
              have hX5 : A5.X[i]? = some { l with p := ⟨some ⟨g2, 0, none⟩, cap2⟩ } := by rw [← HA5.out]; simp [(List.getElem?_eq_some_iff.1 HX2.out).1]
              have HX5 : Hid (A5.X[i]? = some { l with p := ⟨some ⟨g2, 0, none⟩, cap2⟩ }) := hX5
              have hI5 : m5.ths[i]? = some { t with opn := t.opn ++ [0] } := by rw [← HM5.out]; simp [VMD.setTh, (List.getElem?_eq_some_iff.1 HI2.out).1]
              have HI5 : Hid (m5.ths[i]? = some { t with opn := t.opn ++ [0] }) := hI5
              have HS5 : Hid (VSt (fun k => (k = 1 ∨ k = 12) ∨ isT i k) w A W5 A5) := HS3.out.trans (r2.weaken (fun k hk => .inr hk))
              have hJl : k + 1 ≤ t.opn.length := by rw [HN.out]; omega
              have R6 : VRep W5.drew A5 m5 f e := r1.fresh (Fr.refl _ _).drew
              obtain ⟨cur', hcp, RM, SM, RF, SF⟩ := R6.insP HI5.out HX5.out (g := g2) rfl (xs := t.opn) (z := 0) (J := k + 1) rfl hJl NC
              rw [HN.out] at hcp
              have HCP : Hid (∀ ty q n1 c1 s n2 c2, (q = k + 1 + 1 ∨ (q = 0 ∧ N = k + 1)) → n1 = N - (k + 1) → s = k + 1 → n2 = N + 1 - (k + 1) → (Builtin.copy_ #[88, 88] ty #[.slice (some ⟨g2, q, none⟩) n1 c1, .slice (some ⟨g2, s, none⟩) n2 c2]).run Tryz.prog W5.drew = .ok (.int .i64 (N - (k + 1) : Nat)) (W5.drew.setRow g2 cur')) := hcp
              have hm5 : m5.setTh i { t with opn := t.opn.take (k + 1) ++ [NC] ++ t.opn.drop (k + 1) } = { m with cells := m.cells ++ [⟨i, a, nilV⟩], ths := m.ths.set i { t with opn := t.opn.take (k + 1) ++ [NC] ++ t.opn.drop (k + 1) } } := by rw [← HM5.out, ← HM2.out]; simp [VMD.setTh]
              rw [hm5] at RF
              have HRF : Hid (VRep ((W5.drew.setRow g2 cur').setCell ⟨g2, k + 1, none⟩ (.int .i64 NC)) A5 { m with cells := m.cells ++ [⟨i, a, nilV⟩], ths := m.ths.set i { t with opn := t.opn.take (k + 1) ++ [NC] ++ t.opn.drop (k + 1) } } f e) := RF
              have HSF : Hid (VSt (fun k => (k = 1 ∨ k = 12) ∨ isT i k) w A ((W5.drew.setRow g2 cur').setCell ⟨g2, k + 1, none⟩ (.int .i64 NC)) A5) := (HS5.out.trans (VSt.fresh (Fr.refl _ _).drew)).trans (SF.weaken (fun k hk => .inr hk))
              have c6 := R6.thCell HI5.out HX5.out (j := 4) (by omega)
              simp only [thCells, List.getElem?_cons_succ, List.getElem?_cons_zero, Sl.v, hbT5, List.length_append, List.length_singleton, HN.out] at c6
              have hT6 := R6.ths.here.has.lt
              rw [hbT5] at hT6
              have hI7 : (m5.setTh i { t with opn := t.opn.take (k + 1) ++ [(t.opn ++ [0]).getD (k + 1) 0] ++ t.opn.drop (k + 1) }).ths[i]? = some { t with opn := t.opn.take (k + 1) ++ [(t.opn ++ [0]).getD (k + 1) 0] ++ t.opn.drop (k + 1) } := by simp [VMD.setTh, (List.getElem?_eq_some_iff.1 HI5.out).1]
              have hlen7 : (t.opn.take (k + 1) ++ [(t.opn ++ [0]).getD (k + 1) 0] ++ t.opn.drop (k + 1)).length = N + 1 := by simp only [List.length_append, List.length_take, List.length_drop, List.length_singleton, HN.out]; omega
              have c7 := RM.thCell hI7 hX5 (j := 4) (by omega)
              simp only [thCells, List.getElem?_cons_succ, List.getElem?_cons_zero, Sl.v, hbT5, hlen7] at c7
              have hT7 := RM.ths.here.has.lt
              rw [hbT5] at hT7
              obtain ⟨u7, hu7⟩ : ∃ u, (t.opn.take (k + 1) ++ [(t.opn ++ [0]).getD (k + 1) 0] ++ t.opn.drop (k + 1))[k + 1]? = some u := ⟨_, List.getElem?_eq_getElem (by rw [hlen7]; omega)⟩
              obtain ⟨g7, o1, o2, o3, o4, o5, o6⟩ := (RM.one hI7 hX5).p.at nCells_len hu7
              have o1' : g2 = g7 := by simp at o1; exact o1
              subst o1'
              have o50 := o5 0 (by omega)
              have o60 := o6 (k + 1)
              simp only [nCells, List.getElem?_cons_zero, Nat.add_zero, Nat.mul_one] at o50
              have hcap2 : N + 1 ≤ cap2 := by simp only [hlen7] at o2; exact o2
              obtain ⟨W7, HW7⟩ : ∃ W7 : World, Hid (W5.drew.setRow g2 cur' = W7) := ⟨_, rfl⟩
              rw [HW7.out] at c7 hT7 o4 o50 o60 HCP HRF HSF
              clear q1 q2 q3 q4 hq3 hh r1 r2 R6 RM SM RF SF o1 o2 o3 o5 o6 hu7 hlen7 HX2 hbT hcp hm5 hI7 hI5 hX5 HW7 hbT5
              go_wp2_with fail
              rw [HW5.out]
              refine wp_region_tail 13 (by kernel_rfl) (by kernel_rfl) (fun _ _ _ _ _ h => h) ?_
              simp only [List.take_succ_cons, List.take_zero, List.drop_succ_cons, List.drop_zero]
              repeat go_big_quiet_step (fail)
              refine wpQuiet_nil ?_
              go_wp2_with fail
              all_goals
                first
                  | rw [HCP.out _ _ _ _ _ _ _ (.inl rfl) (by omega) (by omega) (by omega)]
                  | rw [HCP.out _ _ _ _ _ _ _ (.inr ⟨rfl, by omega⟩) (by omega) (by omega) (by omega)]
                clear HCP
                go_wp2_with fail
                go_ret
                refine ⟨by rw [FIN.out]; rfl, A5, ?_, ?_, FK.of HX.out HX5.out rfl⟩
                · rw [FIN.out]; exact HRF.out
                · exact HSF.out
end
end Go.Proofs.Qxb6500574aGreatDoor
