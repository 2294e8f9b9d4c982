/-
  THE WALK of vm: decode.
-/
import Derived.Test.Qxb6500574aGreatDoorVLd8
import Derived.Laws.IdiomStrings
namespace Go.Proofs.Qxb6500574aGreatDoor
open Go Go.RowKit
set_option linter.unusedVariables false
set_option linter.unusedSimpArgs false
theorem VRep.stp {w w1 : World} {A : VL} {m : VMD} {f e : Nat} {o' : Nat → Nat} (h : VRep w A m f e) (t : Stp (fun _ => False) w A.o w1 o') : VRep w1 { A with o := o' } m f e := by
  obtain ⟨k, hk, ht⟩ := h.tabs
  exact ⟨h.core.st t (fun _ _ x => x), h.ths.st t (by have := h.lenX; have := h.len5; simp; omega) (fun _ _ x => x), h.lenX, h.len5, h.num.st t (fun x => x) (fun x => x), ⟨k, hk, ht.st t (fun _ _ x => x)⟩, t.hi h.own⟩
/-- the end of decodeP -/
def dcF (im : ImD) (r2 : Bs) : Option ImD :=
  if r2 ≠ [] then none
  else if (im.protos.getD 0 pr0).np = 0 ∧ (im.protos.getD 0 pr0).nup = 0 then some im else none
theorem decodeP_cons (x : UInt8) (r1 : Bs) : decodeP (x :: r1) = if x.toNat < 1 ∨ x.toNat > 13 then none else match protosP x.toNat ⟨[], [], [], []⟩ r1 with | none => none | some (im, r2) => dcF im r2 := rfl
theorem protoP_len {im im' : ImD} {r r' : Bs} (h : protoP im r = some (im', r')) : im'.protos.length = im.protos.length + 1 := by
  rw [protoP_is] at h
  split at h
  · cases h
  · split at h
    · cases h
    · split at h
      · cases h
      · unfold prC2 at h
        split at h
        · cases h
        · split at h
          · cases h
          · unfold prC3 at h
            split at h
            · cases h
            · split at h
              · cases h
              · cases h
                simp
/-- what stands at the head of decode's loop: n protos are to be read -/
structure DS (w : World) (A : VL) (m : VMD) (f e br bb c : Nat) (s : Bs) (k n : Nat) (wk : World) (Ak : VL) (mk : VMD) (ik : Nat) (bad : Bool) : Prop where
  ld : LD wk Ak mk f e br bb c s ik bad
  st : VSt isVM w A wk Ak
  same : mk.ths = m.ths ∧ mk.tabs = m.tabs ∧ mk.out = m.out ∧ mk.clos = m.clos ∧ mk.upix = m.upix ∧ mk.cells = m.cells
  ln : Lens mk ik
  pr : (bad = false ∧ mk.protos.length = k ∧ decodeP s = match protosP n (imOf mk) (s.drop ik) with | none => none | some (im, r2) => dcF im r2) ∨ (bad = true ∧ decodeP s = none)
/-- what decode leaves -/
def DcPost (w : World) (A : VL) (m : VMD) (f e : Nat) (s : Bs) (e' : Ending) (w' : World) : Prop :=
  ∃ A' m' b, e' = .returned (.bool b) ∧ VRep w' A' m' f e ∧ VSt isVM w A w' A' ∧ (m'.ths = m.ths ∧ m'.tabs = m.tabs ∧ m'.out = m.out ∧ m'.clos = m.clos ∧ m'.upix = m.upix ∧ m'.cells = m.cells) ∧
    ((b = false ∧ decodeP s = none) ∨ (b = true ∧ ∃ im, decodeP s = some im ∧ imOf m' = im))
section
variable {w : World} {A : VL} {m : VMD} {f e : Nat} {s : Bs}
set_option maxRecDepth 100000
set_option maxHeartbeats 1000000
theorem decode_any (h : VRep w A m f e) (hm : imOf m = ⟨[], [], [], []⟩) (hs : s.length ≤ 32768) :
    Calls Tryz.prog 80 #[.pointer (some ⟨A.b, 0, none⟩), sv s] w (DcPost w A m f e s) := by
  obtain ⟨cap, HCAP⟩ : ∃ cp, Hid (grownCap w s.length 0 5 = cp) := ⟨_, rfl⟩
  have hc1 : s.length ≤ cap := by rw [← HCAP.out]; exact grownCap_ge _ _ _ _
  have hc2 : cap ≤ 9223372036854775807 := by rw [← HCAP.out]; exact grownCap_le_maxLen _ _ _ _ (by unfold maxLen; omega)
  have hcv := run_bytes_of_string (P := Tryz.prog) w 9 49 5 ⟨s.toArray⟩ (by kernel_rfl) (by kernel_rfl) (by kernel_rfl)
  have hsz : (⟨s.toArray⟩ : ByteArray).size = s.length := rfl
  rw [hsz, HCAP.out] at hcv
  obtain ⟨W1, HW1⟩ : ∃ W, Hid (w.drew.alloc (.cells (bytesRow ⟨s.toArray⟩ cap) 5 ((bytesRow ⟨s.toArray⟩ cap).size, (bytesRow ⟨s.toArray⟩ cap).size + 1)) = W) := ⟨_, Eq.refl _⟩
  rw [HW1.out] at hcv
  have hW1 : W1.heap.size = w.heap.size + 1 := by rw [← HW1.out]; simp
  have F1 : Fr (fun _ => False) w W1 := by rw [← HW1.out]; exact ((Fr.refl _ _).drew).alloc _
  have hby : ∀ j (hj : j < s.length), W1.cell? ⟨w.heap.size, j, none⟩ = some (.int .u8 (s[j].toNat : Int)) := by
    intro j hj
    rw [← HW1.out]
    have e1 : (w.drew.alloc (.cells (bytesRow ⟨s.toArray⟩ cap) 5 ((bytesRow ⟨s.toArray⟩ cap).size, (bytesRow ⟨s.toArray⟩ cap).size + 1))).heap[w.heap.size]? = some (.cells (bytesRow ⟨s.toArray⟩ cap) 5 ((bytesRow ⟨s.toArray⟩ cap).size, (bytesRow ⟨s.toArray⟩ cap).size + 1)) := heap_alloc_new w.drew _
    have e2 := bytesRow_at ⟨s.toArray⟩ cap j (by simpa using hj)
    simp only [World.cell?, e1]
    rw [e2]
    simp
  obtain ⟨br, HBR⟩ : ∃ b, Hid (w.heap.size + 1 = b) := ⟨_, rfl⟩
  obtain ⟨bb, HBB⟩ : ∃ b, Hid (w.heap.size = b) := ⟨_, rfl⟩
  -- the reader
  obtain ⟨W2, HW2⟩ : ∃ W, Hid (W1.alloc (.cells #[.slice (some ⟨bb, 0, none⟩) s.length cap, .int .i64 0, .bool false] 250) = W) := ⟨_, Eq.refl _⟩
  have F2 : Fr (fun _ => False) w W2 := by rw [← HW2.out]; exact F1.alloc _
  have L0 : LD W2 { A with o := upd A.o br 15 } m f e br bb cap s 0 false := by
    have t : Stp (fun _ => False) w A.o W2 (upd A.o br 15) := by
      refine ⟨F2, fun k hk => upd_ne _ _ (by rw [← HBR.out]; omega), fun ow k hk => ?_⟩
      have h2 : W2.heap.size = w.heap.size + 1 + 1 := by rw [← HW2.out]; simp [hW1]
      rw [upd_ne _ _ (by rw [← HBR.out]; omega)]
      exact ow k (by omega)
    refine ⟨h.stp t, ⟨?_, ?_, ?_, ?_, Nat.zero_le _, hc1, hs, hc2⟩, upd_self _ _ _, ?_⟩
    · rw [← HW2.out]
      exact Has.newC _ _ _ (by rw [hW1]; exact HBR.out.symm)
    · intro j hj
      rw [← HW2.out, ← HBB.out]
      rw [((Fr.refl (fun _ => False) W1).alloc _).cellB (by omega) (fun x => x)]
      exact hby j hj
    · have h2 : W2.heap.size = w.heap.size + 1 + 1 := by rw [← HW2.out]; simp [hW1]
      rw [← HBB.out]
      omega
    · rw [← HBB.out, ← HBR.out]
      omega
    · show upd A.o br 15 bb = 0
      rw [upd_ne _ _ (by rw [← HBB.out, ← HBR.out]; omega)]
      exact h.own _ (by rw [← HBB.out]; exact Nat.le_refl _)
  have S0 : VSt isVM w A W2 { A with o := upd A.o br 15 } := by
    refine ⟨⟨F2.weaken (fun _ _ x => x.elim), fun k hk => upd_ne _ _ (by rw [← HBR.out]; omega), fun ow k hk => ?_⟩, rfl, rfl, rfl, rfl, rfl⟩
    have h2 : W2.heap.size = w.heap.size + 1 + 1 := by rw [← HW2.out]; simp [hW1]
    show upd A.o br 15 k = 0
    rw [upd_ne _ _ (by rw [← HBR.out]; omega)]
    exact ow k (by omega)
  have e2 : W1.alloc (.cells #[.slice (some ⟨bb, 0, none⟩) s.length cap, .int .i64 0, .bool false] 250) = W2 := HW2.out
  have HL0 : Hid (LD W2 { A with o := upd A.o br 15 } m f e br bb cap s 0 false) := L0
  have HS0 : Hid (VSt isVM w A W2 { A with o := upd A.o br 15 }) := S0
  have HM : Hid (imOf m = ⟨[], [], [], []⟩) := hm
  clear h hm hby HCAP L0 S0 F1 F2
  go_enter Tryz.func80, Tryz.ntmps80
  rw [HBB.out] at hcv
  go_wp2_with fail
  rw [HBR.out]
  clear hcv e2 HW1 HW2 hW1
  obtain ⟨A0, HA0⟩ : ∃ A0, Hid (({ A with o := upd A.o br 15 } : VL) = A0) := ⟨_, Eq.refl _⟩
  have hAb : A0.b = A.b := by rw [← HA0.out]
  rw [HA0.out] at HL0 HS0
  clear HA0 HBR HBB hc1 hc2
  by_cases hnil : s.length = 0
  · have hs0 : s = [] := List.eq_nil_of_length_eq_zero hnil
    have hd0 : decodeP s = none := by rw [hs0]; rfl
    have U := u8_no HL0.out.rd (.inr hnil.symm)
    refine U.mono ?_
    rintro e' w5 ⟨rfl, R5, F5⟩
    obtain ⟨L5, S5⟩ := HL0.out.ofRd R5 F5
    have HF : Hid (DcPost w A m f e s (.returned (.bool false)) w5) := ⟨A0, m, false, rfl, L5.rep, HS0.out.trans S5, ⟨rfl, rfl, rfl, rfl, rfl, rfl⟩, .inl ⟨rfl, hd0⟩⟩
    clear U R5 F5 L5 S5 hs0 hd0 hnil
    go_wp2_with fail
    go_ret
    exact HF.out
  · have hpos : 0 < s.length := by omega
    have U := u8_ok HL0.out.rd (i := 0) hpos
    have x8 := s[0].toNat_lt
    simp only [Nat.zero_add] at U
    have HDC : Hid (decodeP s = if s[0].toNat < 1 ∨ s[0].toNat > 13 then none else match protosP s[0].toNat ⟨[], [], [], []⟩ (s.drop 1) with | none => none | some (im, r2) => dcF im r2) := by
      cases s with
      | nil => simp at hpos
      | cons x r1 => exact decodeP_cons x r1
    generalize s[0].toNat = N at U HDC x8
    refine U.mono ?_
    rintro e' w5 ⟨rfl, R5, F5⟩
    obtain ⟨L5, S5⟩ := HL0.out.ofRd R5 F5
    have HL5 : Hid (LD w5 A0 m f e br bb cap s 1 false) := L5
    have HS5 : Hid (VSt isVM w A w5 A0) := HS0.out.trans S5
    have HFN : Hid (decodeP s = none → DcPost w A m f e s (.returned (.bool false)) w5) := fun hn => ⟨A0, m, false, rfl, L5.rep, HS0.out.trans S5, ⟨rfl, rfl, rfl, rfl, rfl, rfl⟩, .inl ⟨rfl, hn⟩⟩
    clear U R5 F5 L5 S5
    by_cases hbad : N < 1 ∨ 13 < N
    · have HF : Hid (DcPost w A m f e s (.returned (.bool false)) w5) := HFN.out (by have := HDC.out; rw [if_pos hbad] at this; exact this)
      clear HFN HDC
      by_cases h1 : N < 1
      · have h1' : (N : Int) < 1 := by omega
        go_wp2_with fail
        go_ret
        exact HF.out
      · have h1' : ¬ (N : Int) < 1 := by omega
        have h2' : (13 : Int) < (N : Int) := by omega
        go_wp2_with fail
        go_ret
        exact HF.out
    have h1' : ¬ (N : Int) < 1 := by omega
    have h2' : ¬ (13 : Int) < (N : Int) := by omega
    have HD0 : Hid (DS w A m f e br bb cap s 0 N w5 A0 m 1 false) := by
      have him := HM.out
      have hl0 : m.protos = [] ∧ m.descs = [] ∧ m.consts = [] ∧ m.code = [] := by
        unfold imOf at him
        simp only [ImD.mk.injEq] at him
        exact him
      refine ⟨HL5.out, HS5.out, ⟨rfl, rfl, rfl, rfl, rfl, rfl⟩, ⟨by rw [hl0.1]; simp, by rw [hl0.2.1]; simp, by rw [hl0.2.2.1]; simp, by rw [hl0.2.2.2]; simp⟩, .inl ⟨rfl, by rw [hl0.1]; rfl, ?_⟩⟩
      rw [him]
      have := HDC.out
      rw [if_neg hbad] at this
      exact this
    clear HFN HDC HL5 HS5 HL0 HS0 HM
    have hN : 1 ≤ N ∧ N ≤ 13 := by omega
    clear hbad
    go_wp2_with fail
    go_loopg [7] N (fun n v7 wr => ∃ (k : Nat) (Ak : VL) (mk : VMD) (ik : Nat) (bad : Bool), v7 = .int .i64 k ∧ k + n = N ∧ Hid (DS w A m f e br bb cap s k n wr Ak mk ik bad))
    case atStart => exact ⟨0, A0, m, 1, false, rfl, Nat.zero_add _, HD0.out⟩
    case round =>
      clear HD0
      obtain ⟨k, Ak, mk, ik, bad, rfl, hkn, HD⟩ := hrel
      obtain ⟨c0, c1, c2⟩ := HD.out.ld.rd.cells
      have cl := HD.out.ld.rd.here.lt
      have hbk := HD.out.st.b
      have NO : Hid (decodeP s = none → ∀ w', Fr (fun _ => False) wr w' → DcPost w A m f e s (.returned (.bool false)) w') := fun hn w' hw => ⟨Ak, mk, false, rfl, HD.out.ld.rep.fresh hw, HD.out.st.trans (VSt.fresh hw), HD.out.same, .inl ⟨rfl, hn⟩⟩
      cases bad with
      | true =>
        have hnone : decodeP s = none := by
          rcases HD.out.pr with ⟨h, _⟩ | ⟨_, h⟩
          · cases h
          · exact h
        have HNO : Hid (∀ w', Fr (fun _ => False) wr w' → DcPost w A m f e s (.returned (.bool false)) w') := NO.out hnone
        clear NO hnone
        by_cases hk : k < N
        · have hk' : (k : Int) < (N : Int) := by omega
          go_wp2_with fail
          refine wp_region_quiet_lit (by kernel_rfl) (by kernel_rfl) ?_
          repeat go_big_quiet_step (fail)
          refine wpQuiet_nil ?_
          rintro w' ⟨nq, rfl⟩
          go_wp2_with fail
          go_ret
          exact HNO.out _ ((Fr.refl _ _).drewN nq)
        · have hk' : ¬ (k : Int) < (N : Int) := by omega
          go_wp2_with fail
          refine wp_region_quiet_lit (by kernel_rfl) (by kernel_rfl) ?_
          repeat go_big_quiet_step (fail)
          refine wpQuiet_nil ?_
          rintro w' ⟨nq, rfl⟩
          go_wp2_with fail
          go_ret
          exact HNO.out _ ((Fr.refl _ _).drewN nq)
      | false =>
        have HPR : Hid (mk.protos.length = k ∧ decodeP s = match protosP gk (imOf mk) (s.drop ik) with | none => none | some (im, r2) => dcF im r2) := by
          rcases HD.out.pr with ⟨_, h⟩ | ⟨h, _⟩
          · exact h
          · cases h
        cases gk with
        | zero =>
          have hk' : ¬ (k : Int) < (N : Int) := by omega
          have hil := HD.out.ld.rd.le
          have hdc : decodeP s = dcF (imOf mk) (s.drop ik) := HPR.out.2
          by_cases hend : ik = s.length
          · have hdrop : s.drop ik = [] := by rw [hend, List.drop_length]
            rw [hdrop] at hdc
            have hdc : decodeP s = if (mk.protos.getD 0 pr0).np = 0 ∧ (mk.protos.getD 0 pr0).nup = 0 then some (imOf mk) else none := hdc
            have hlt : 0 < mk.protos.length := by have := HPR.out.1; omega
            obtain ⟨p, hp⟩ : ∃ p, mk.protos[0]? = some p := ⟨_, List.getElem?_eq_getElem hlt⟩
            have hg : mk.protos.getD 0 pr0 = p := by rw [List.getD_eq_getElem?_getD, hp]; rfl
            rw [hg] at hdc
            obtain ⟨g, u1, _, _, u4, u5, _⟩ := HD.out.ld.rep.core.protos.at pCells_len hp
            have x0 := u5 0 (by omega)
            have x3 := u5 3 (by omega)
            simp only [pCells, List.getElem?_cons_succ, List.getElem?_cons_zero, Nat.zero_mul, Nat.zero_add, Nat.add_zero] at x0 x3
            have d2 := HD.out.ld.rep.core.here.has.cell 2
            have dl := HD.out.ld.rep.core.here.has.lt
            simp only [vmCells, List.getElem?_toArray, List.getElem?_cons_succ, List.getElem?_cons_zero, Sl.v, u1, HPR.out.1] at d2
            rw [hbk] at d2 dl
            have hk1 : 1 ≤ k := by omega
            have hk13 : k ≤ 13 := by omega
            have hne : ((ik : Int) != (s.length : Int)) = false := by simp [hend]
            obtain ⟨SL, HSL⟩ : ∃ SL, Hid (s.length = SL) := ⟨_, rfl⟩
            rw [HSL.out] at c0 hne
            have YES : Hid (∀ im, decodeP s = some im → imOf mk = im → ∀ w', Fr (fun _ => False) wr w' → DcPost w A m f e s (.returned (.bool true)) w') := fun im hn hm w' hw => ⟨Ak, mk, true, rfl, HD.out.ld.rep.fresh hw, HD.out.st.trans (VSt.fresh hw), HD.out.same, .inr ⟨rfl, im, hn, hm⟩⟩
            clear u5 u1 hg hp hend hdrop HD HPR hlt
            obtain ⟨pn, ps, pu, pnu, pk, pnk, pcd, pnc⟩ := p
            dsimp only at x0 x3 hdc
            by_cases h0 : pn = 0
            · by_cases h3 : pnu = 0
              · have HNO : Hid (∀ w', Fr (fun _ => False) wr w' → DcPost w A m f e s (.returned (.bool true)) w') := YES.out _ (by rw [hdc, if_pos ⟨h0, h3⟩]) rfl
                clear NO YES hdc
                subst h0 h3
                rw [show ((0 : Nat) : Int) = 0 from rfl] at x0 x3
                go_wp2_with fail
                refine wp_region_quiet_lit (by kernel_rfl) (by kernel_rfl) ?_
                repeat go_big_quiet_step (fail)
                refine wpQuiet_nil ?_
                rintro w' ⟨nq, rfl⟩
                go_wp2_with fail
                go_ret
                exact HNO.out _ ((Fr.refl _ _).drewN nq)
              · have HNO : Hid (∀ w', Fr (fun _ => False) wr w' → DcPost w A m f e s (.returned (.bool false)) w') := NO.out (by rw [hdc, if_neg (fun h => h3 h.2)])
                clear NO YES hdc
                subst h0
                rw [show ((0 : Nat) : Int) = 0 from rfl] at x0
                have h3' : ((pnu : Int) == 0) = false := by rw [beq_eq_false_iff_ne]; omega
                go_wp2_with fail
                refine wp_region_quiet_lit (by kernel_rfl) (by kernel_rfl) ?_
                repeat go_big_quiet_step (fail)
                refine wpQuiet_nil ?_
                rintro w' ⟨nq, rfl⟩
                go_wp2_with fail
                go_ret
                exact HNO.out _ ((Fr.refl _ _).drewN nq)
            · have HNO : Hid (∀ w', Fr (fun _ => False) wr w' → DcPost w A m f e s (.returned (.bool false)) w') := NO.out (by rw [hdc, if_neg (fun h => h0 h.1)])
              clear NO YES hdc
              have h0' : ((pn : Int) == 0) = false := by rw [beq_eq_false_iff_ne]; omega
              go_wp2_with fail
              refine wp_region_quiet_lit (by kernel_rfl) (by kernel_rfl) ?_
              repeat go_big_quiet_step (fail)
              refine wpQuiet_nil ?_
              rintro w' ⟨nq, rfl⟩
              go_wp2_with fail
              go_ret
              exact HNO.out _ ((Fr.refl _ _).drewN nq)
          · have hne : ((ik : Int) != (s.length : Int)) = true := by simp; omega
            have HNO : Hid (∀ w', Fr (fun _ => False) wr w' → DcPost w A m f e s (.returned (.bool false)) w') := NO.out (by
              rw [hdc]
              unfold dcF
              rw [if_pos (fun hn => by
                have := congrArg List.length hn
                simp at this
                omega)])
            clear NO hdc
            obtain ⟨SL, HSL⟩ : ∃ SL, Hid (s.length = SL) := ⟨_, rfl⟩
            rw [HSL.out] at c0 hne
            go_wp2_with fail
            refine wp_region_quiet_lit (by kernel_rfl) (by kernel_rfl) ?_
            repeat go_big_quiet_step (fail)
            refine wpQuiet_nil ?_
            rintro w' ⟨nq, rfl⟩
            go_wp2_with fail
            go_ret
            exact HNO.out _ ((Fr.refl _ _).drewN nq)
        | succ n =>
          have hk' : (k : Int) < (N : Int) := by omega
          have PP := proto_any HD.out.ld HD.out.ln
          rw [hbk] at PP
          clear NO
          go_wp2_with fail
          refine PP.mono ?_
          clear PP c0 c1 c2 cl
          rintro e' w6 ⟨A6, m6, i6, bad6, rfl, L6, S6, hi6, hsm, hln, hok⟩
          have HD6 : Hid (DS w A m f e br bb cap s (k + 1) n w6 A6 m6 i6 bad6) := by
            have h0 := HD.out
            obtain ⟨a1, a2, a3, a4, a5, a6⟩ := h0.same
            obtain ⟨b1, b2, b3, b4, b5, b6⟩ := hsm
            refine ⟨L6, h0.st.trans S6, ⟨b1.trans a1, b2.trans a2, b3.trans a3, b4.trans a4, b5.trans a5, b6.trans a6⟩, hln, ?_⟩
            obtain ⟨p1, p2⟩ := HPR.out
            have e1 : protosP (n + 1) (imOf mk) (s.drop ik) = match protoP (imOf mk) (s.drop ik) with | none => none | some (im1, r1) => protosP n im1 r1 := rfl
            rw [e1] at p2
            rcases hok with ⟨hb, im, hr, hm6⟩ | ⟨hb, hr⟩
            · refine .inl ⟨hb, ?_, ?_⟩
              · rw [hm6]
                show im.protos.length = k + 1
                rw [protoP_len hr]
                show mk.protos.length + 1 = k + 1
                rw [p1]
              · have hr' : protoP (imOf mk) (s.drop ik) = some (im, s.drop i6) := hr
                rw [hr'] at p2
                rw [hm6]
                exact p2
            · have hr' : protoP (imOf mk) (s.drop ik) = none := hr
              rw [hr'] at p2
              exact .inr ⟨hb, p2⟩
          clear L6 S6 hsm hln hok HPR HD
          go_wp2_with fail
          go_roundg n
          case measure => exact Nat.lt_succ_self _
          case rel => exact ⟨k + 1, A6, m6, i6, bad6, by simp, by omega, HD6.out⟩
end
end Go.Proofs.Qxb6500574aGreatDoor
