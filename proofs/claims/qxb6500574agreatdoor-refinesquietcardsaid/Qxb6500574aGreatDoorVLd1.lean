/-
  THE WALK of vm: constant (a number, and what is refused).
-/
import Derived.Test.Qxb6500574aGreatDoorVLd0
namespace Go.Proofs.Qxb6500574aGreatDoor
open Go Go.RowKit
set_option linter.unusedVariables false
set_option linter.unusedSimpArgs false
section
variable {w : World} {A : VL} {m : VMD} {f e br bb c i : Nat} {s : Bs}
set_option maxRecDepth 100000
set_option maxHeartbeats 1000000
/-- what constant asks of the lengths -/
def Lens (m : VMD) (i : Nat) : Prop := m.protos.length ≤ i ∧ m.descs.length ≤ i ∧ m.consts.length ≤ i ∧ m.code.length ≤ i
theorem Lens.le {m : VMD} {i i' : Nat} (h : Lens m i) (l : i ≤ i') : Lens m i' := ⟨by have := h.1; omega, by have := h.2.1; omega, by have := h.2.2.1; omega, by have := h.2.2.2; omega⟩
def CoPostL (w : World) (A : VL) (m : VMD) (f e br bb c : Nat) (s : Bs) (i : Nat) : Ending → World → Prop :=
  LdPost w A m f e br bb c s i (fun m' r => ∃ v, constP (s.drop i) = some (v, r) ∧ m' = { m with consts := m.consts ++ [v] }) (fun m' => constP (s.drop i) = none ∧ m'.protos = m.protos ∧ m'.descs = m.descs ∧ m'.code = m.code)
theorem const_end (h : LD w A m f e br bb c s i false) (hl : Lens m i) (hi : i = s.length) :
    Calls Tryz.prog 209 #[.pointer (some ⟨A.b, 0, none⟩), .pointer (some ⟨br, 0, none⟩)] w (CoPostL w A m f e br bb c s i) := by
  have hp : constP (s.drop i) = none := by rw [hi, List.drop_length]; rfl
  have U := u8_no h.rd (.inr hi)
  have FIN : Hid (∀ w1, Rd w1 br bb c s i true → Fr (fun k => k = br) w w1 → CoPostL w A m f e br bb c s i (.returned (.tuple #[])) (w1.setCell ⟨br, 2, none⟩ (.bool true))) := by
    intro w1 r1 f1
    obtain ⟨L1, S1⟩ := h.ofRd r1 f1
    obtain ⟨L2, S2⟩ := L1.spoil
    exact ⟨A, m, i, true, rfl, L2, S1.trans S2, Nat.le_refl _, ⟨rfl, rfl, rfl, rfl, rfl, rfl⟩, hl, .inr ⟨rfl, hp, rfl, rfl, rfl⟩⟩
  clear h hl hp
  go_enter Tryz.func209, Tryz.ntmps209
  go_wp2_with fail
  refine U.mono ?_
  rintro e' w1 ⟨rfl, R1, F1⟩
  obtain ⟨c0, c1, c2⟩ := R1.cells
  have cl := R1.here.lt
  have z2 := R1.here.frozen 2
  have HF : Hid (CoPostL w A m f e br bb c s i (.returned (.tuple #[])) (w1.setCell ⟨br, 2, none⟩ (.bool true))) := FIN.out w1 R1 F1
  clear FIN U R1
  go_wp2_with fail
  go_end0
  exact HF.out
theorem const_bad (h : LD w A m f e br bb c s i false) (hl : Lens m i) (hi : i < s.length) (h1 : s[i].toNat ≠ 1) (h2 : s[i].toNat ≠ 2) :
    Calls Tryz.prog 209 #[.pointer (some ⟨A.b, 0, none⟩), .pointer (some ⟨br, 0, none⟩)] w (CoPostL w A m f e br bb c s i) := by
  have hp : constP (s.drop i) = none := by
    rw [List.drop_eq_getElem_cons hi]
    unfold constP
    dsimp only
    rw [if_neg (fun e => h1 (by rw [e]; rfl)), if_neg (fun e => h2 (by rw [e]; rfl))]
  have U := u8_ok h.rd hi
  have FIN : Hid (∀ w1, Rd w1 br bb c s (i + 1) false → Fr (fun k => k = br) w w1 → CoPostL w A m f e br bb c s i (.returned (.tuple #[])) (w1.setCell ⟨br, 2, none⟩ (.bool true))) := by
    intro w1 r1 f1
    obtain ⟨L1, S1⟩ := h.ofRd r1 f1
    obtain ⟨L2, S2⟩ := L1.spoil
    exact ⟨A, m, i + 1, true, rfl, L2, S1.trans S2, by omega, ⟨rfl, rfl, rfl, rfl, rfl, rfl⟩, hl.le (by omega), .inr ⟨rfl, hp, rfl, rfl, rfl⟩⟩
  have x1 : ((s[i].toNat : Int) == 1) = false := by rw [beq_eq_false_iff_ne]; omega
  have x2 : ((s[i].toNat : Int) == 2) = false := by rw [beq_eq_false_iff_ne]; omega
  clear h hl hp h1 h2
  generalize s[i].toNat = x at x1 x2 U
  go_enter Tryz.func209, Tryz.ntmps209
  go_wp2_with fail
  refine U.mono ?_
  rintro e' w1 ⟨rfl, R1, F1⟩
  obtain ⟨c0, c1, c2⟩ := R1.cells
  have cl := R1.here.lt
  have z2 := R1.here.frozen 2
  have HF : Hid (CoPostL w A m f e br bb c s i (.returned (.tuple #[])) (w1.setCell ⟨br, 2, none⟩ (.bool true))) := FIN.out w1 R1 F1
  clear FIN U R1
  go_wp2_with fail
  go_end0
  exact HF.out
theorem const_num_no (h : LD w A m f e br bb c s i false) (hl : Lens m i) (hi : i < s.length) (h1 : s[i].toNat = 1) (h9 : s.length < i + 9) :
    Calls Tryz.prog 209 #[.pointer (some ⟨A.b, 0, none⟩), .pointer (some ⟨br, 0, none⟩)] w (CoPostL w A m f e br bb c s i) := by
  have hs1 : s[i] = 1 := UInt8.toNat_inj.1 (by rw [h1]; rfl)
  have hp : constP (s.drop i) = none := by
    rw [List.drop_eq_getElem_cons hi]
    unfold constP
    dsimp only
    rw [if_pos hs1, rdTake, if_pos (by rw [List.length_drop]; omega)]
  have U := u8_ok h.rd hi
  rw [h1] at U
  have FIN : Hid (∀ w1 w2, Rd w1 br bb c s (i + 1) false → Fr (fun k => k = br) w w1 → Rd w2 br bb c s (i + 1) true → Fr (fun k => k = br) w1 w2 → CoPostL w A m f e br bb c s i (.returned (.tuple #[])) w2) := by
    intro w1 w2 r1 f1 r2 f2
    obtain ⟨L1, S1⟩ := h.ofRd r1 f1
    obtain ⟨L2, S2⟩ := L1.ofRd r2 f2
    exact ⟨A, m, i + 1, true, rfl, L2, S1.trans S2, by omega, ⟨rfl, rfl, rfl, rfl, rfl, rfl⟩, hl.le (by omega), .inr ⟨rfl, hp, rfl, rfl, rfl⟩⟩
  clear h hl hp h1 hs1
  go_enter Tryz.func209, Tryz.ntmps209
  go_wp2_with fail
  refine U.mono ?_
  rintro e' w1 ⟨rfl, R1, F1⟩
  have TN := rtake_no R1 (n := 8) (by omega) (.inr (by omega))
  go_wp2_with fail
  refine TN.mono ?_
  rintro e' w2 ⟨rfl, R2, F2⟩
  obtain ⟨c0, c1, c2⟩ := R2.cells
  have cl := R2.here.lt
  have HF : Hid (CoPostL w A m f e br bb c s i (.returned (.tuple #[])) w2) := FIN.out w1 w2 R1 F1 R2 F2
  clear FIN U R1 R2 TN
  go_wp2_with fail
  go_end0
  exact HF.out
theorem const_num (h : LD w A m f e br bb c s i false) (hl : Lens m i) (hi : i < s.length) (h1 : s[i].toNat = 1) (h9 : i + 9 ≤ s.length) :
    Calls Tryz.prog 209 #[.pointer (some ⟨A.b, 0, none⟩), .pointer (some ⟨br, 0, none⟩)] w (CoPostL w A m f e br bb c s i) := by
  have hs1 : s[i] = 1 := UInt8.toNat_inj.1 (by rw [h1]; rfl)
  obtain ⟨W, HW⟩ : ∃ W, (s.drop (i + 1)).take 8 = W := ⟨_, rfl⟩
  have hWl : W.length = 8 := by rw [← HW]; simp; omega
  have hp : constP (s.drop i) = if isNan (leN W) ∧ leN W ≠ nanB then none else some (numV (leN W), s.drop (i + 9)) := by
    rw [List.drop_eq_getElem_cons hi]
    unfold constP
    dsimp only
    rw [if_pos hs1, rdTake, if_neg (by rw [List.length_drop]; omega)]
    dsimp only
    rw [HW, List.drop_drop, show i + 1 + 8 = i + 9 by omega]
  have U := u8_ok h.rd hi
  rw [h1] at U
  have hWb : ∀ j (hj : j < 8), W[j] = s[i + 1 + j] := by
    intro j hj
    subst HW
    rw [List.getElem_take, List.getElem_drop]
  have hcl := h.rd.len
  have cb0 := h.rep.core.here.has.cell 0
  have FIN : Hid (∀ w1 w2 bad', Rd w1 br bb c s (i + 1) false → Fr (fun k => k = br) w w1 → LD w2 A m f e br bb c s (i + 9) bad' → VSt isVM w A w2 A → (bad' = true → constP (s.drop i) = none) → (bad' = false → constP (s.drop i) = some (numV (leN W), s.drop (i + 9))) → ∀ wa w3 g cap, Fr (fun _ => False) w2 wa → w3.ownsRow 0 68 3 (.slice (some ⟨g, 0, none⟩) (m.consts.length + 1) cap) (m.consts.length + 1) (m.consts.flatMap vCells ++ vCells (numV (leN W))) → Fr (fun j => (A.C.consts.v m.consts.length).ownBlock = some j) wa w3 → ((A.C.consts.v m.consts.length).ownBlock = some g ∨ w2.heap.size ≤ g) → g < w3.heap.size →
      (Has w3 A.b (vmCells A.bn A.bt A.bT A.C m m.ths.length f e) 91) ∧ CoPostL w A m f e br bb c s i (.returned (.tuple #[])) (w3.setCell ⟨A.b, 4, none⟩ (.slice (some ⟨g, 0, none⟩) (m.consts.length + 1) cap))) := by
    intro w1 w2 bad' r1 f1 L2 S2 hb1 hb2 wa w3 g cap fa q1 q2 q3 q4
    obtain ⟨hh, R3, S3⟩ := L2.rep.app_consts (numV (leN W)) fa q1 q2 q3 q4
    have L3 := L2.ofVM R3 S3 (by omega) (by omega)
    refine ⟨hh, _, _, i + 9, bad', rfl, L3, S2.trans (S3.weaken (fun k hk => by unfold isVM; omega)), by omega, ⟨rfl, rfl, rfl, rfl, rfl, rfl⟩, ⟨by have := hl.1; simp only; omega, by have := hl.2.1; simp only; omega, by have := hl.2.2.1; simp; omega, by have := hl.2.2.2; simp only; omega⟩, ?_⟩
    cases bad' with
    | false => exact .inl ⟨rfl, _, hb2 rfl, rfl⟩
    | true => exact .inr ⟨rfl, hb1 rfl, rfl, rfl, rfl⟩
  have LDH : Hid (LD w A m f e br bb c s i false) := h
  have HLN : Hid (Lens m i) := hl
  have HP : Hid (constP (s.drop i) = if isNan (leN W) ∧ leN W ≠ nanB then none else some (numV (leN W), s.drop (i + 9))) := hp
  have HWB : Hid (∀ j (hj : j < 8), W[j] = s[i + 1 + j]) := hWb
  clear h hl hp h1 hs1 HW hWb
  go_enter Tryz.func209, Tryz.ntmps209
  go_wp2_with fail
  refine U.mono ?_
  rintro e' w1 ⟨rfl, R1, F1⟩
  have TO := rtake_ok R1 (n := 8) (by omega)
  go_wp2_with fail
  refine TO.mono ?_
  rintro e' w2 ⟨⟨aa, c', rfl, ha⟩, R2, F2⟩
  obtain ⟨rfl, hc'⟩ := ha (by omega)
  clear ha TO
  obtain ⟨L1, S1⟩ := LDH.out.ofRd R1 F1
  obtain ⟨L2, S2⟩ := L1.ofRd R2 F2
  rw [show i + 1 + 8 = i + 9 by omega] at L2
  have HL2 : Hid (LD w2 A m f e br bb c s (i + 9) false) := L2
  have HS2 : Hid (VSt isVM w A w2 A) := S1.trans S2
  have HR1 : Hid (Rd w1 br bb c s (i + 1) false ∧ Fr (fun k => k = br) w w1) := ⟨R1, F1⟩
  obtain ⟨c0, c1, c2⟩ := R2.cells
  have cl := R2.here.lt
  have B : ∀ j (hj : j < 8), w2.cell? ⟨bb, i + 1 + j, none⟩ = some (.int .u8 (W[j].toNat : Int)) := by
    intro j hj
    rw [HWB.out j hj]
    exact R2.bytes (i + 1 + j) (by omega)
  have bl := R2.lt
  have b0 := B 0 (by omega)
  have b1 := B 1 (by omega)
  have b2 := B 2 (by omega)
  have b3 := B 3 (by omega)
  have b4 := B 4 (by omega)
  have b5 := B 5 (by omega)
  have b6 := B 6 (by omega)
  have b7 := B 7 (by omega)
  rw [Nat.add_zero] at b0
  have har : ∀ W c, (Instr.arrayAt 414 (.slice (some ⟨bb, i + 1, none⟩) 8 c)).run Tryz.prog W = .ok (.pointer (some ⟨bb, i + 1, none⟩)) W := fun W c => run_arrayAt _ _ 5 8 _ _ _ (by kernel_rfl) (Nat.le_refl _)
  clear R1 R2 F1 F2 L1 L2 S1 S2 B U
  go_wp2_with fail
  obtain ⟨W2, HW2⟩ : ∃ W2, w2.alloc (.cells #[.int .u8 W[0].toNat, .int .u8 W[1].toNat, .int .u8 W[2].toNat, .int .u8 W[3].toNat, .int .u8 W[4].toNat, .int .u8 W[5].toNat, .int .u8 W[6].toNat, .int .u8 W[7].toNat] 414) = W2 := ⟨_, rfl⟩
  rw [HW2]
  have F2 : Fr (fun _ => False) w2 W2 := by rw [← HW2]; exact (Fr.refl _ _).alloc _
  have q6 : Has W2 w2.heap.size #[.int .u8 W[0].toNat, .int .u8 W[1].toNat, .int .u8 W[2].toNat, .int .u8 W[3].toNat, .int .u8 W[4].toNat, .int .u8 W[5].toNat, .int .u8 W[6].toNat, .int .u8 W[7].toNat] 414 := by rw [← HW2]; exact Has.new _ _ _
  have l6 := q6.lt
  have HB : Hid (∀ k (hk : k < 8), W2.cell? ⟨w2.heap.size, k, none⟩ = some (.int .u8 (W[k].toNat : Int))) := by
    intro k hk
    rw [q6.cell]
    rcases (by omega : k = 0 ∨ k = 1 ∨ k = 2 ∨ k = 3 ∨ k = 4 ∨ k = 5 ∨ k = 6 ∨ k = 7) with rfl | rfl | rfl | rfl | rfl | rfl | rfl | rfl <;> rfl
  have HF2 : Hid (Fr (fun _ => False) w2 W2) := F2
  clear F2 q6 HW2 b0 b1 b2 b3 b4 b5 b6 b7 har c0 c1 c2 cl bl
  go_loopw [7, 8] (fun v7 v8 wr => ∃ (j x : Nat), j ≤ 8 ∧ v8 = .int .i64 ((j : Int) - 1) ∧ v7 = .int .u64 (x : Int) ∧ Hid (x = leN (W.drop j)) ∧ wr = W2) (fun _ v8 _ => (intOf v8 + 1).toNat)
  case atStart => exact ⟨8, 0, by omega, rfl, rfl, (by rw [List.drop_eq_nil_of_le (by omega)]; rfl : (0 : Nat) = leN (W.drop 8)), rfl⟩
  case round =>
    obtain ⟨j, x, hj, rfl, rfl, hx, rfl⟩ := hrel
    cases j with
    | zero =>
      have hv : (((0 : Nat) : Int) - 1) = -1 := by omega
      rw [hv]
      rw [List.drop_zero] at hx
      have L3 := HL2.out.fresh HF2.out
      have d0 := L3.rep.core.here.has.cell 0
      have d4 := L3.rep.core.here.has.cell 4
      have dz := L3.rep.core.here.has.frozen 4
      have dl := L3.rep.core.here.has.lt
      simp only [vmCells, List.getElem?_toArray, List.getElem?_cons_succ, List.getElem?_cons_zero, Sl.v] at d0 d4
      obtain ⟨c0, c1, c2⟩ := L3.rd.cells
      have cl := L3.rd.here.lt
      have z2 := L3.rd.here.frozen 2
      have nb : A.b ≠ br := fun e => by have h1 := L3.rep.core.here.lb; have h2 := L3.l1; rw [e, h2] at h1; omega
      have hC : ∀ W', Calls Tryz.prog 134 #[.pointer (some ⟨A.bn, 0, none⟩), .int .i64 2, .int .u64 x, .int .u64 x] W' fun e w' => e = .returned (.bool (isNan x)) ∧ w' = W' := fun W' => cmp_any (w := W') (.pointer (some ⟨A.bn, 0, none⟩)) 2 x x
      obtain ⟨NK, HNK⟩ : ∃ NK, Hid (m.consts.length = NK) := ⟨_, rfl⟩
      rw [HNK.out] at d4
      have hnk : NK ≤ 32768 := by have := HLN.out.2.2.1; have := HNK.out; omega
      have HL3 : Hid (LD wr A m f e br bb c s (i + 9) false) := L3
      have HS3 : Hid (VSt isVM w A wr A) := HS2.out.trans (VSt.fresh HF2.out)
      clear L3
      rw [← hx.out] at FIN HP
      go_wp2_with fail
      refine (hC _).mono ?_
      rintro e' w5 ⟨rfl, rfl⟩
      clear hC
      by_cases hbad : isNan x = true ∧ x ≠ nanB
      · obtain ⟨hn, hx9⟩ := hbad
        have HPN : Hid (constP (s.drop i) = none) := by have := HP.out; rw [if_pos ⟨hn, hx9⟩] at this; exact this
        have hx9' : ((x : Int) != 9221120237041090561) = true := by
          rw [bne_iff_ne]
          intro e
          exact hx9 (by unfold nanB; omega)
        have LX : Hid (LD (w5.setCell ⟨br, 2, none⟩ (.bool true)) A m f e br bb c s (i + 9) true) := HL3.out.spoil.1
        have SX : Hid (VSt isVM w A (w5.setCell ⟨br, 2, none⟩ (.bool true)) A) := HS3.out.trans HL3.out.spoil.2
        clear hx9 HP HL3 HS3
        have HOWN : Hid ((w5.setCell ⟨br, 2, none⟩ (.bool true)).ownsRow 0 68 3 (.slice A.C.consts.a NK A.C.consts.c) NK (m.consts.flatMap vCells)) := by
          have := LX.out.rep.core.consts.own
          rw [HNK.out] at this
          exact this
        go_wp2_with (at_builtin; go_must (refine wpList_appN rowVal _ rfl (.tmp 59) (.tmp 62) rfl _ _ _ rfl (owns_alloc HOWN.out _) _ 1 1 (vCells (numV x)) rfl (Has.newSet _ _ _ _ _) rfl (by omega) ?one ?bd ?go))
        case one => exact vCells_oneC _
        case bd => omega
        case go =>
          intro g cap w' q1 q2 q3 q4
          obtain ⟨hh, hfin⟩ := FIN.out w1 (w5.setCell ⟨br, 2, none⟩ (.bool true)) _ HR1.out.1 HR1.out.2 LX.out SX.out (fun _ => HPN.out) (fun e => by cases e) ((w5.setCell ⟨br, 2, none⟩ (.bool true)).alloc (.cells #[.int .i64 2, .int .u64 x, sv []] 68)) w' g cap ((Fr.refl _ _).alloc _) (by rw [HNK.out]; exact q1) (by rw [HNK.out]; exact q2) (by
            rw [HNK.out]
            rcases q3 with q3 | q3
            · exact .inl q3
            · right; rw [q3]; simp) q4
          have y4 := hh.cell 4
          have yz := hh.frozen 4
          have yl := hh.lt
          simp only [vmCells, List.getElem?_toArray, List.getElem?_cons_succ, List.getElem?_cons_zero, Sl.v] at y4
          rw [HNK.out] at hfin y4
          have HFN : Hid (CoPostL w A m f e br bb c s i (.returned (.tuple #[])) (w'.setCell ⟨A.b, 4, none⟩ (.slice (some ⟨g, 0, none⟩) (NK + 1) cap))) := hfin
          clear hh hfin q1 q2 q3 q4 FIN
          go_wp2_with fail
          go_end0
          exact HFN.out
      · have HPN : Hid (constP (s.drop i) = some (numV x, s.drop (i + 9))) := by have := HP.out; rw [if_neg hbad] at this; exact this
        have hx9' : isNan x = true → ((x : Int) != 9221120237041090561) = false := by
          intro hn
          rw [bne_eq_false_iff_eq]
          have : x = nanB := Decidable.byContradiction fun hq => hbad ⟨hn, hq⟩
          rw [this]
          rfl
        obtain ⟨WX, HWX⟩ : ∃ WX, WX = w5 := ⟨_, rfl⟩
        subst HWX
        have LX : Hid (LD WX A m f e br bb c s (i + 9) false) := HL3.out
        have SX : Hid (VSt isVM w A WX A) := HS3.out
        clear HP hbad
        cases hn : isNan x with
        | true =>
          have hx9 := hx9' hn
          clear hx9'
          have HOWN : Hid (WX.ownsRow 0 68 3 (.slice A.C.consts.a NK A.C.consts.c) NK (m.consts.flatMap vCells)) := by
            have := LX.out.rep.core.consts.own
            rw [HNK.out] at this
            exact this
          go_wp2_with (at_builtin; go_must (refine wpList_appN rowVal _ rfl (.tmp 59) (.tmp 62) rfl _ _ _ rfl (owns_alloc HOWN.out _) _ 1 1 (vCells (numV x)) rfl (Has.new _ _ _) rfl (by omega) ?one ?bd ?go))
          case one => exact vCells_oneC _
          case bd => omega
          case go =>
            intro g cap w' q1 q2 q3 q4
            obtain ⟨hh, hfin⟩ := FIN.out w1 WX _ HR1.out.1 HR1.out.2 LX.out SX.out (fun e => by cases e) (fun _ => HPN.out) (WX.alloc (.cells #[.int .i64 2, .int .u64 x, sv []] 68)) w' g cap ((Fr.refl _ _).alloc _) (by rw [HNK.out]; exact q1) (by rw [HNK.out]; exact q2) (by
              rw [HNK.out]
              rcases q3 with q3 | q3
              · exact .inl q3
              · right; rw [q3]; simp) q4
            have y4 := hh.cell 4
            have yz := hh.frozen 4
            have yl := hh.lt
            simp only [vmCells, List.getElem?_toArray, List.getElem?_cons_succ, List.getElem?_cons_zero, Sl.v] at y4
            rw [HNK.out] at hfin y4
            have HFN : Hid (CoPostL w A m f e br bb c s i (.returned (.tuple #[])) (w'.setCell ⟨A.b, 4, none⟩ (.slice (some ⟨g, 0, none⟩) (NK + 1) cap))) := hfin
            clear hh hfin q1 q2 q3 q4 FIN
            go_wp2_with fail
            go_end0
            exact HFN.out
        | false =>
          clear hx9'
          have HOWN : Hid (WX.ownsRow 0 68 3 (.slice A.C.consts.a NK A.C.consts.c) NK (m.consts.flatMap vCells)) := by
            have := LX.out.rep.core.consts.own
            rw [HNK.out] at this
            exact this
          go_wp2_with (at_builtin; go_must (refine wpList_appN rowVal _ rfl (.tmp 59) (.tmp 62) rfl _ _ _ rfl (owns_alloc HOWN.out _) _ 1 1 (vCells (numV x)) rfl (Has.new _ _ _) rfl (by omega) ?one ?bd ?go))
          case one => exact vCells_oneC _
          case bd => omega
          case go =>
            intro g cap w' q1 q2 q3 q4
            obtain ⟨hh, hfin⟩ := FIN.out w1 WX _ HR1.out.1 HR1.out.2 LX.out SX.out (fun e => by cases e) (fun _ => HPN.out) (WX.alloc (.cells #[.int .i64 2, .int .u64 x, sv []] 68)) w' g cap ((Fr.refl _ _).alloc _) (by rw [HNK.out]; exact q1) (by rw [HNK.out]; exact q2) (by
              rw [HNK.out]
              rcases q3 with q3 | q3
              · exact .inl q3
              · right; rw [q3]; simp) q4
            have y4 := hh.cell 4
            have yz := hh.frozen 4
            have yl := hh.lt
            simp only [vmCells, List.getElem?_toArray, List.getElem?_cons_succ, List.getElem?_cons_zero, Sl.v] at y4
            rw [HNK.out] at hfin y4
            have HFN : Hid (CoPostL w A m f e br bb c s i (.returned (.tuple #[])) (w'.setCell ⟨A.b, 4, none⟩ (.slice (some ⟨g, 0, none⟩) (NK + 1) cap))) := hfin
            clear hh hfin q1 q2 q3 q4 FIN
            go_wp2_with fail
            go_end0
            exact HFN.out
    | succ k =>
      have hv : (((k + 1 : Nat) : Int) - 1) = (k : Int) := by omega
      rw [hv]
      have bk := HB.out k (by omega)
      have b8 := W[k].toNat_lt
      have hx2 : x < 72057594037927936 := by
        rw [hx.out]
        have := leN_below (W.drop (k + 1))
        rw [List.length_drop, hWl] at this
        refine Nat.lt_of_lt_of_le this ?_
        exact Nat.le_trans (Nat.pow_le_pow_right (by omega) (by omega : 8 - (k + 1) ≤ 7)) (by decide)
      have hle : leN (W.drop k) = W[k].toNat + 256 * x := by rw [hx.out]; exact leN_drop (by omega)
      have HLE : Hid (W[k].toNat + 256 * x = leN (W.drop k)) := hle.symm
      have hor := or_u64 (x := W[k].toNat) (y := x) (by omega) hx2
      have HOR : Hid (bits .or .u64 ((x : Int) * 256) ((W[k].toNat : Nat) : Int) = ((W[k].toNat + 256 * x : Nat) : Int)) := hor
      clear hle hor hx
      generalize W[k].toNat = y at bk b8 HLE HOR
      go_wp2_with fail
      rw [HOR.out]
      go_roundw
      case rel => exact ⟨k, y + 256 * x, by omega, rfl, rfl, HLE.out, by trivial⟩
      case measure => simp [intOf]
end
end Go.Proofs.Qxb6500574aGreatDoor
