/-
  THE WALK of vm: checkVals.
-/
import Derived.Test.Qxb6500574aGreatDoorUSlp
import Derived.Test.Qxb6500574aGreatDoorVValid
namespace Go.Proofs.Qxb6500574aGreatDoor
open Go Go.RowKit
set_option linter.unusedVariables false
set_option linter.unusedSimpArgs false
section
variable {w : World} {A : VL} {m : VMD} {f e : Nat} {K : Cx}
set_option maxRecDepth 100000
set_option maxHeartbeats 1000000
theorem checkVals_any (R : VRep w A m f e) (S : Slp K m) :
    Calls Tryz.prog 149 #[.pointer (some ⟨A.b, 0, none⟩)] w fun e' w' => e' = .returned (.bool true) ∧ Fr (fun _ => False) w w' := by
  obtain ⟨Q, HQ⟩ : ∃ Q : Ending → World → Prop, Hid ((fun e' w' => e' = .returned (.bool true) ∧ Fr (fun _ => False) w w') = Q) := ⟨_, rfl⟩
  rw [HQ.out]
  have HR : Hid (VRep w A m f e) := R
  have HS : Hid (Slp K m) := S
  have c4 : w.cell? ⟨A.b, 4, none⟩ = some (.slice A.C.consts.a m.consts.length A.C.consts.c) := R.cell0 4
  have bl := R.bl
  have nk := S.vi.txt.kl
  obtain ⟨NK, HNK⟩ : ∃ n, Hid (m.consts.length = n) := ⟨_, rfl⟩
  rw [HNK.out] at c4 nk
  clear R S
  go_enter Tryz.func149, Tryz.ntmps149
  go_wp2_with fail
  go_loopw [18] (fun v18 wr => ∃ (k : Nat), k ≤ NK ∧ v18 = .int .i64 k ∧ Hid (Fr (fun _ => False) w wr)) (fun v18 _ => NK - (intOf v18).toNat)
  case atStart => exact ⟨0, by omega, rfl, Fr.refl _ _⟩
  case round =>
    obtain ⟨k, hk, rfl, HFk⟩ := hrel
    by_cases h3 : NK = k
    · subst h3
      have c8 : wr.cell? ⟨A.b, 8, none⟩ = some (.slice A.C.cells.a m.cells.length A.C.cells.c) := HFk.out.cell (HR.out.cell0 8)
      have dl := Nat.lt_of_lt_of_le HR.out.bl HFk.out.size
      have nc : m.cells.length ≤ 6120 := Nat.le_trans HS.out.vi.cu (UpL.le HS.out.vi HS.out.up)
      obtain ⟨NC, HNC⟩ : ∃ n, Hid (m.cells.length = n) := ⟨_, rfl⟩
      rw [HNC.out] at c8 nc
      clear c4 bl
      go_wp2_with fail
      go_loopw [41] (fun v41 wr => ∃ (k : Nat), k ≤ NC ∧ v41 = .int .i64 k ∧ Hid (Fr (fun _ => False) w wr)) (fun v41 _ => NC - (intOf v41).toNat)
      case atStart => exact ⟨0, by omega, rfl, HFk⟩
      case round =>
        obtain ⟨k, hk, rfl, HFc⟩ := hrel
        by_cases h3 : NC = k
        · subst h3
          have c9 : wr.cell? ⟨A.b, 9, none⟩ = some (.slice (some ⟨A.bT, 0, none⟩) m.ths.length 5) := HFc.out.cell (HR.out.cell0 9)
          have el := Nat.lt_of_lt_of_le HR.out.bl HFc.out.size
          have n5 : m.ths.length ≤ 5 := by have := HR.out.len5; omega
          obtain ⟨NT, HNT⟩ : ∃ n, Hid (m.ths.length = n) := ⟨_, rfl⟩
          rw [HNT.out] at c9 n5
          clear c8 dl
          go_wp2_with fail
          go_loopw [57] (fun v57 wr => ∃ (k : Nat), k ≤ NT ∧ v57 = .int .i64 k ∧ Hid (Fr (fun _ => False) w wr)) (fun v57 _ => NT - (intOf v57).toNat)
          case atStart => exact ⟨0, by omega, rfl, HFc⟩
          case round =>
            obtain ⟨k, hk, rfl, HFt⟩ := hrel
            by_cases h3 : NT = k
            · subst h3
              have FIN : Hid (Q (.returned (.bool true)) wr) := by rw [← HQ.out]; exact ⟨rfl, HFt.out⟩
              go_wp2_with fail
              exact FIN.out
            · obtain ⟨t, hi⟩ : ∃ t, m.ths[k]? = some t := ⟨_, List.getElem?_eq_getElem (by rw [HNT.out]; omega)⟩
              obtain ⟨l, hx⟩ : ∃ l, A.X[k]? = some l := ⟨_, List.getElem?_eq_getElem (by rw [HR.out.lenX, HNT.out]; omega)⟩
              have s2 : wr.cell? ⟨A.bT, k * 5 + 2, none⟩ = some (.slice l.s.a t.stack.length l.s.c) := HFt.out.cell (HR.out.thCell hi hx (j := 2) (by omega))
              have d9 : wr.cell? ⟨A.b, 9, none⟩ = some (.slice (some ⟨A.bT, 0, none⟩) m.ths.length 5) := HFt.out.cell (HR.out.cell0 9)
              have dl := Nat.lt_of_lt_of_le HR.out.bl HFt.out.size
              have tl := Nat.lt_of_lt_of_le HR.out.ths.here.has.lt HFt.out.size
              have sn := HS.out.stk hi
              have HI : Hid (m.ths[k]? = some t) := hi
              have HX : Hid (A.X[k]? = some l) := hx
              obtain ⟨NS, HNS⟩ : ∃ n, Hid (t.stack.length = n) := ⟨_, rfl⟩
              rw [HNS.out] at s2 sn
              rw [HNT.out] at d9
              have hkN : (k : Int) < (NT : Int) := by omega
              clear hi hx c9 el
              go_wp2_with fail
              go_loopw [69] (fun v69 wr => ∃ (j : Nat), j ≤ NS ∧ v69 = .int .i64 j ∧ Hid (Fr (fun _ => False) w wr)) (fun v69 _ => NS - (intOf v69).toNat)
              case atStart => exact ⟨0, by omega, rfl, HFt⟩
              case round =>
                obtain ⟨j, hj, rfl, HFj⟩ := hrel
                by_cases h4 : NS = j
                · subst h4
                  go_wp2_with fail
                  exact ⟨⟨k + 1, by omega, by go_num, HFj⟩, by simp [intOf]; omega⟩
                · obtain ⟨v, hv⟩ : ∃ v, t.stack[j]? = some v := ⟨_, List.getElem?_eq_getElem (by rw [HNS.out]; omega)⟩
                  obtain ⟨g, a1, a2, a3, a4, a5, a6⟩ := (HR.out.one HI.out HX.out).s.at vCells_len hv
                  dsimp only at a1
                  have q0 := HFj.out.cell (a5 0 (by omega))
                  have q1 := HFj.out.cell (a5 1 (by omega))
                  have q2 := HFj.out.cell (a5 2 (by omega))
                  simp only [vCells, List.getElem?_cons_succ, List.getElem?_cons_zero, Nat.add_zero] at q0 q1 q2
                  have gl := Nat.lt_of_lt_of_le a4 HFj.out.size
                  have HV : Hid (validV m v = true) := ((HS.out.vi.th k t HI.out).sv v (List.mem_of_getElem? hv)).valid HS.out.vi.kt HS.out.vi.kc HS.out.vi.kh
                  have hjN : (j : Int) < (NS : Int) := by omega
                  obtain ⟨vt, vn, vs⟩ := v
                  dsimp only at q0 q1 q2
                  clear a2 a3 a4 a5 a6 hv
                  go_wp2_with fail
                  refine (valid_any (HR.out.fresh (HFj.out.alloc _)) ⟨vt, vn, vs⟩ HV.out ⟨by have := HS.out.vi.kc; have := HS.out.vi.cn; omega, by have := HS.out.vi.kt; have := HS.out.vi.tn; omega⟩).mono ?_
                  rintro e' w2 ⟨rfl, F2⟩
                  have HF2 : Hid (Fr (fun _ => False) w w2) := (HFj.out.alloc _).trans F2 (fun _ _ x => x)
                  clear F2 q0 q1 q2
                  go_wp2_with fail
                  rw [← a1]
                  go_roundw
                  case rel => exact ⟨j + 1, by omega, by go_num, HF2⟩
                  case measure => simp [intOf]; omega
        · obtain ⟨ce, hce⟩ : ∃ ce, m.cells[k]? = some ce := ⟨_, List.getElem?_eq_getElem (by rw [HNC.out]; omega)⟩
          obtain ⟨g, a1, a2, a3, a4, a5, a6⟩ := HR.out.core.cells.at ceCells_len hce
          have q0 := HFc.out.cell (a5 0 (by omega))
          have q1 := HFc.out.cell (a5 1 (by omega))
          have q2 := HFc.out.cell (a5 2 (by omega))
          have q3 := HFc.out.cell (a5 3 (by omega))
          have q4 := HFc.out.cell (a5 4 (by omega))
          simp only [ceCells, List.getElem?_cons_succ, List.getElem?_cons_zero, Nat.add_zero] at q0 q1 q2 q3 q4
          have gl := Nat.lt_of_lt_of_le a4 HFc.out.size
          have HV : Hid (validV m ce.v = true) := (HS.out.vi.cz ce (List.mem_of_getElem? hce)).1.valid HS.out.vi.kt HS.out.vi.kc HS.out.vi.kh
          have hkN : (k : Int) < (NC : Int) := by omega
          obtain ⟨cth, cp, ⟨vt, vn, vs⟩⟩ := ce
          dsimp only at q0 q1 q2 q3 q4
          clear a2 a3 a4 a5 a6 hce
          go_wp2_with fail
          refine (valid_any (HR.out.fresh (HFc.out.alloc _)) ⟨vt, vn, vs⟩ HV.out ⟨by have := HS.out.vi.kc; have := HS.out.vi.cn; omega, by have := HS.out.vi.kt; have := HS.out.vi.tn; omega⟩).mono ?_
          rintro e' w2 ⟨rfl, F2⟩
          have HF2 : Hid (Fr (fun _ => False) w w2) := (HFc.out.alloc _).trans F2 (fun _ _ x => x)
          clear F2 q0 q1 q2 q3 q4
          go_wp2_with fail
          rw [← a1]
          go_roundw
          case rel => exact ⟨k + 1, by omega, by go_num, HF2⟩
          case measure => simp [intOf]; omega
    · obtain ⟨v, hv⟩ : ∃ v, m.consts[k]? = some v := ⟨_, List.getElem?_eq_getElem (by rw [HNK.out]; omega)⟩
      obtain ⟨g, a1, a2, a3, a4, a5, a6⟩ := HR.out.core.consts.at vCells_len hv
      have q0 := HFk.out.cell (a5 0 (by omega))
      have q1 := HFk.out.cell (a5 1 (by omega))
      have q2 := HFk.out.cell (a5 2 (by omega))
      simp only [vCells, List.getElem?_cons_succ, List.getElem?_cons_zero, Nat.add_zero] at q0 q1 q2
      have gl := Nat.lt_of_lt_of_le a4 HFk.out.size
      obtain ⟨ht, hok⟩ := HS.out.vi.txt.ks v (List.mem_of_getElem? hv)
      have HV : Hid (validV m v = true) := (hok K).valid HS.out.vi.kt HS.out.vi.kc HS.out.vi.kh
      have hkN : (k : Int) < (NK : Int) := by omega
      obtain ⟨vt, vn, vs⟩ := v
      dsimp only at q0 q1 q2 ht
      clear a2 a3 a4 a5 a6 hv hok
      rcases ht with ht | ht
      · subst ht
        go_wp2_with fail
        refine (valid_any (HR.out.fresh (HFk.out.alloc _)) ⟨2, vn, vs⟩ HV.out ⟨by have := HS.out.vi.kc; have := HS.out.vi.cn; omega, by have := HS.out.vi.kt; have := HS.out.vi.tn; omega⟩).mono ?_
        rintro e' w2 ⟨rfl, F2⟩
        have HF2 : Hid (Fr (fun _ => False) w w2) := (HFk.out.alloc _).trans F2 (fun _ _ x => x)
        clear F2 q0 q1 q2
        go_wp2_with fail
        rw [← a1]
        go_roundw
        case rel => exact ⟨k + 1, by omega, by go_num, HF2⟩
        case measure => simp [intOf]; omega
      · subst ht
        go_wp2_with fail
        refine (valid_any (HR.out.fresh (HFk.out.alloc _)) ⟨3, vn, vs⟩ HV.out ⟨by have := HS.out.vi.kc; have := HS.out.vi.cn; omega, by have := HS.out.vi.kt; have := HS.out.vi.tn; omega⟩).mono ?_
        rintro e' w2 ⟨rfl, F2⟩
        have HF2 : Hid (Fr (fun _ => False) w w2) := (HFk.out.alloc _).trans F2 (fun _ _ x => x)
        clear F2 q0 q1 q2
        go_wp2_with fail
        rw [← a1]
        go_roundw
        case rel => exact ⟨k + 1, by omega, by go_num, HF2⟩
        case measure => simp [intOf]; omega
end
end Go.Proofs.Qxb6500574aGreatDoor
