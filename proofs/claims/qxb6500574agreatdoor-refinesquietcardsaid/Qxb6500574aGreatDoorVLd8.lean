/-
  THE WALK of vm: proto whole.
-/
import Derived.Test.Qxb6500574aGreatDoorVLd7
namespace Go.Proofs.Qxb6500574aGreatDoor
open Go Go.RowKit
set_option linter.unusedVariables false
set_option linter.unusedSimpArgs false
section
variable {w : World} {A : VL} {m : VMD} {f e br bb c i : Nat} {s : Bs}
set_option maxRecDepth 100000
set_option maxHeartbeats 1000000
theorem proto_any (h : LD w A m f e br bb c s i false) (hl : Lens m i) :
    Calls Tryz.prog 133 #[.pointer (some ⟨A.b, 0, none⟩), .pointer (some ⟨br, 0, none⟩)] w (PrPost w A m f e br bb c s i) := by
  have hbc := h.rep.core.here.has
  have d3 := hbc.cell 3
  have d4 := hbc.cell 4
  have d5 := hbc.cell 5
  have dl := hbc.lt
  simp only [vmCells, List.getElem?_toArray, List.getElem?_cons_succ, List.getElem?_cons_zero, Sl.v] at d3 d4 d5
  obtain ⟨D, HD⟩ : ∃ D, Hid (m.descs.length = D) := ⟨_, rfl⟩
  obtain ⟨KK, HKK⟩ : ∃ D, Hid (m.consts.length = D) := ⟨_, rfl⟩
  obtain ⟨CD, HCD⟩ : ∃ D, Hid (m.code.length = D) := ⟨_, rfl⟩
  rw [HD.out] at d3
  rw [HKK.out] at d4
  rw [HCD.out] at d5
  have hlen := h.rd.len
  have hile := h.rd.le
  have HL : Hid (LD w A m f e br bb c s i false) := h
  have HLN : Hid (Lens m i) := hl
  have hD : D ≤ 32768 := by have := hl.2.1; have := HD.out; omega
  have hKK : KK ≤ 32768 := by have := hl.2.2.1; have := HKK.out; omega
  have hCD : CD ≤ 32768 := by have := hl.2.2.2; have := HCD.out; omega
  clear h hl hbc
  go_enter Tryz.func133, Tryz.ntmps133
  obtain ⟨Q, HQQ⟩ : ∃ Q, Hid (bodyPost Tryz.prog Tryz.f133 (PrPost w A m f e br bb c s i) = Q) := ⟨_, rfl⟩
  rw [HQQ.out]
  have hQ : Hid (∀ c a t v w, Q (.panic c) (a.put (some t) v) w → Q (.panic c) a w) := by
    rw [← HQQ.out]
    intro c a t v w h
    exact h
  have hR : Hid (∀ bp a' w', Fr40 A.b br bp a' → PrPost w A m f e br bb c s i (.returned (.tuple #[])) w' → Q .ret a' w' ∧ Q .normal a' w') := by
    rw [← HQQ.out]
    intro bp a' w' ha h'
    have : a'.defers = [] ∧ ∃ v, (results Tryz.f133 a'.tmps).run Tryz.prog w' = .ok v w' ∧ PrPost w A m f e br bb c s i (.returned v) w' := ⟨ha.df, _, by simp [results, Tryz.results133], h'⟩
    exact ⟨this, this⟩
  have C1 : Hid (∀ bp np ns nup a' wk Ak mk ik bad, PS w A m f e br bb c s i bp (prV m np ns nup 0 0) wk Ak mk ik bad → nup ≤ 255 → St1 m mk s i ik np ns nup nup bad → Fr40 A.b br bp a' → (pc1 Tryz.f133.body).wp Tryz.prog Q a' wk) := fun bp np ns nup a' wk Ak mk ik bad h hn hs ha => p1_any h hn hs ha hQ.out (hR.out bp)
  show (Code.seq (codeL (Tryz.f133.body.getD .skip)) (Code.seq (codeL (codeR (Tryz.f133.body.getD .skip))) (Code.seq (codeL (codeR (codeR (Tryz.f133.body.getD .skip)))) (Code.seq (codeL (codeR (codeR (codeR (Tryz.f133.body.getD .skip))))) (Code.seq (codeL (codeR (codeR (codeR (codeR (Tryz.f133.body.getD .skip)))))) (pc1 Tryz.f133.body)))))).wp Tryz.prog Q _ w
  generalize pc1 Tryz.f133.body = CC at C1 ⊢
  simp only [codeL, codeR, codeIn, Tryz.f133, Option.getD_some]
  clear HQQ
  go_wp2_with fail
  have k3 : ∀ s : WS w, s.y.cell? ⟨A.b, 3, none⟩ = some (.slice A.C.descs.a D A.C.descs.c) := fun s => s.f.cell d3
  have k4 : ∀ s : WS w, s.y.cell? ⟨A.b, 4, none⟩ = some (.slice A.C.consts.a KK A.C.consts.c) := fun s => s.f.cell d4
  have k5 : ∀ s : WS w, s.y.cell? ⟨A.b, 5, none⟩ = some (.slice A.C.code.a CD A.C.code.c) := fun s => s.f.cell d5
  have HNE : Nonempty (WS w) := WS.non w
  refine wp_region_mid2 [0, 1, 2, 3, 4, 5, 6, 7, 8, 9, 10, 11, 12, 13, 14, 15] 16 0 (fun x => ∃ s : WS w, x = s.y) (by kernel_rfl) (by kernel_rfl) (fun c a t v w h => hQ.out c a t v w h) ⟨⟨w.drew, (Fr.refl _ _).drew⟩, rfl⟩ [_, _, _, _, _, _, _, _, _, _, _, _, _, _, _, _] rfl _ rfl ?_
  simp only [List.getElem_toArray, List.getElem_cons_succ, List.getElem_cons_zero, List.drop_succ_cons, List.drop_zero, List.length_cons, List.length_nil, Nat.zero_add]
  repeat go_big_quiet_step (fail)
  refine wpQuiet_nil ?_
  clear k3 k4 k5 HNE
  go_wp2_with fail
  refine ⟨⟨⟨_, ((Fr.refl _ w).alloc _).drew⟩, rfl⟩, ?_⟩
  rw [wpChain_zero]
  go_wp2_with fail
  obtain ⟨W1, HW1⟩ : ∃ W, Hid ((w.alloc (.cells #[.int .i64 0, .int .i64 0, .int .i64 D, .int .i64 0, .int .i64 KK, .int .i64 0, .int .i64 CD, .int .i64 0] 254)).drew = W) := ⟨_, Eq.refl _⟩
  rw [HW1.out]
  obtain ⟨bp, HBP⟩ : ∃ b, Hid (w.heap.size = b) := ⟨_, rfl⟩
  rw [HBP.out]
  have FW : Fr (fun _ => False) w W1 := by rw [← HW1.out]; exact ((Fr.refl _ _).alloc _).drew
  have hpb : Has W1 bp #[.int .i64 0, .int .i64 0, .int .i64 D, .int .i64 0, .int .i64 KK, .int .i64 0, .int .i64 CD, .int .i64 0] 254 := by rw [← HW1.out, ← HBP.out]; exact (Has.new _ _ _).drew
  have hob : A.o bp = 0 := HL.out.rep.own _ (by rw [← HBP.out]; exact Nat.le_refl _)
  have L1 := HL.out.fresh FW
  clear HW1 d3 d4 d5 dl
  by_cases h3 : i + 3 ≤ s.length
  · have T3 := rtake_ok L1.rd (n := 3) h3
    refine T3.mono ?_
    rintro e' w5 ⟨⟨sa, sc, rfl, hsa⟩, R5, F5⟩
    obtain ⟨rfl, hsc⟩ := hsa (by omega)
    clear hsa T3
    obtain ⟨L5, S5⟩ := L1.ofRd R5 F5
    have SW5 : VSt isVM w A w5 A := (VSt.fresh FW).trans S5
    obtain ⟨hpb5, _⟩ := S5.keep0 notVM0 hpb hob
    have b0 := R5.bytes i (by omega)
    have b1 := R5.bytes (i + 1) (by omega)
    have b2 := R5.bytes (i + 2) (by omega)
    have bl := R5.lt
    have bln : bb < w.heap.size := HL.out.rd.lt
    obtain ⟨c0, c1, c2⟩ := R5.cells
    have cl := R5.here.lt
    have z2 := R5.here.frozen 2
    have HPR : Hid (prR m s i = if s[i].toNat > 3 ∨ s[i].toNat > s[i + 1].toNat ∨ s[i + 1].toNat > 12 then none else match descsP s[i + 2].toNat m.descs (s.drop (i + 3)) with | none => none | some (ds, r2) => prC2 (imOf m) s[i].toNat s[i + 1].toNat s[i + 2].toNat ds r2) := by
      show prR m s i = _
      unfold prR
      rw [protoP_is, rdTake_ok h3]
      dsimp only
      have g : ∀ j, j < 3 → ((s.drop i).take 3).getD j 0 = s.getD (i + j) 0 := by
        intro j hj
        rw [List.getD_eq_getElem?_getD, List.getElem?_take, if_pos hj, List.getElem?_drop, List.getD_eq_getElem?_getD]
      have k0 : s.getD (i + 0) 0 = s[i] := by rw [Nat.add_zero, List.getD_eq_getElem?_getD, List.getElem?_eq_getElem (by omega)]; rfl
      have k1 : s.getD (i + 1) 0 = s[i + 1] := by rw [List.getD_eq_getElem?_getD, List.getElem?_eq_getElem (by omega)]; rfl
      have k2 : s.getD (i + 2) 0 = s[i + 2] := by rw [List.getD_eq_getElem?_getD, List.getElem?_eq_getElem (by omega)]; rfl
      rw [g 0 (by omega), g 1 (by omega), g 2 (by omega), k0, k1, k2]
      rfl
    have x8 := s[i].toNat_lt
    have y8 := s[i + 1].toNat_lt
    have v8 := s[i + 2].toNat_lt
    generalize s[i].toNat = x at b0 HPR x8
    generalize s[i + 1].toNat = y at b1 HPR y8
    generalize s[i + 2].toNat = z at b2 HPR v8
    have PS0 : Hid (PS w A m f e br bb c s i bp (prV m 0 0 0 0 0) w5 A m (i + 3) false) := ⟨L5, SW5, ⟨by rw [HD.out.symm, HKK.out.symm, HCD.out.symm] at hpb5; exact hpb5, hob⟩, by rw [← HBP.out]; exact Nat.le_refl _, bln, Nat.le_refl _, ⟨rfl, rfl, rfl, rfl, rfl, rfl⟩, rfl, HLN.out.le (by omega), HLN.out⟩
    have e0 := hpb5.cell 0
    have e1 := hpb5.cell 1
    have e3 := hpb5.cell 3
    have ez := hpb5.frozen
    have ez0 := ez 0
    have ez1 := ez 1
    have ez3 := ez 3
    have el := hpb5.lt
    simp only [List.getElem?_toArray, List.getElem?_cons_succ, List.getElem?_cons_zero] at e0 e1 e3
    clear L5 SW5 S5 R5 F5 FW hpb hpb5 L1 ez c0 c1
    go_wp2_with fail
    have kx : ∀ s : WC (fun q => q.cell? ⟨bb, i, none⟩ = some (.int .u8 x) ∧ q.cell? ⟨bb, i + 1, none⟩ = some (.int .u8 y) ∧ q.cell? ⟨bb, i + 2, none⟩ = some (.int .u8 z)), s.y.cell? ⟨bb, i, none⟩ = some (.int .u8 x) := fun s => s.f.1
    have ky : ∀ s : WC (fun q => q.cell? ⟨bb, i, none⟩ = some (.int .u8 x) ∧ q.cell? ⟨bb, i + 1, none⟩ = some (.int .u8 y) ∧ q.cell? ⟨bb, i + 2, none⟩ = some (.int .u8 z)), s.y.cell? ⟨bb, i + 1, none⟩ = some (.int .u8 y) := fun s => s.f.2.1
    have kz : ∀ s : WC (fun q => q.cell? ⟨bb, i, none⟩ = some (.int .u8 x) ∧ q.cell? ⟨bb, i + 1, none⟩ = some (.int .u8 y) ∧ q.cell? ⟨bb, i + 2, none⟩ = some (.int .u8 z)), s.y.cell? ⟨bb, i + 2, none⟩ = some (.int .u8 z) := fun s => s.f.2.2
    have HNE : Nonempty (WC (fun q => q.cell? ⟨bb, i, none⟩ = some (.int .u8 x) ∧ q.cell? ⟨bb, i + 1, none⟩ = some (.int .u8 y) ∧ q.cell? ⟨bb, i + 2, none⟩ = some (.int .u8 z))) := WC.non ⟨b0, b1, b2⟩
    refine C.wp_region_head 12 5 (fun q => ∃ s : WC (fun q => q.cell? ⟨bb, i, none⟩ = some (.int .u8 x) ∧ q.cell? ⟨bb, i + 1, none⟩ = some (.int .u8 y) ∧ q.cell? ⟨bb, i + 2, none⟩ = some (.int .u8 z)), q = s.y) (by kernel_rfl) (by kernel_rfl) (fun c a t v w h => hQ.out c a t v w h) ⟨⟨w5.drew, b0, b1, b2⟩, rfl⟩ ?_
    simp only [List.take_succ_cons, List.take_zero, List.drop_succ_cons, List.drop_zero]
    repeat go_big_quiet_step (fail)
    refine wpQuiet_nil ?_
    clear kx ky kz HNE
    have nbp : bb ≠ bp := by have := HBP.out; omega
    have fb : ∀ q : World, (∀ j, q.cell? ⟨bb, j, none⟩ = w5.cell? ⟨bb, j, none⟩) → ∃ s : WC (fun q => q.cell? ⟨bb, i, none⟩ = some (.int .u8 x) ∧ q.cell? ⟨bb, i + 1, none⟩ = some (.int .u8 y) ∧ q.cell? ⟨bb, i + 2, none⟩ = some (.int .u8 z)), q = s.y := fun q hq => ⟨⟨q, (hq _).trans b0, (hq _).trans b1, (hq _).trans b2⟩, rfl⟩
    have HFB : Hid (∀ q : World, (∀ j, q.cell? ⟨bb, j, none⟩ = w5.cell? ⟨bb, j, none⟩) → ∃ s : WC (fun q => q.cell? ⟨bb, i, none⟩ = some (.int .u8 x) ∧ q.cell? ⟨bb, i + 1, none⟩ = some (.int .u8 y) ∧ q.cell? ⟨bb, i + 2, none⟩ = some (.int .u8 z)), q = s.y) := fb
    clear fb
    unfold C.wpChain
    go_wp2_with fail
    refine ⟨HFB.out _ (fun j => rfl), ?_⟩
    unfold C.wpChain
    go_wp2_with fail
    refine ⟨HFB.out _ (fun j => cell_setNe nbp), ?_⟩
    unfold C.wpChain
    go_wp2_with fail
    refine ⟨HFB.out _ (fun j => cell_setNe nbp), ?_⟩
    unfold C.wpChain
    go_wp2_with fail
    refine ⟨HFB.out _ (fun j => (cell_setNe nbp).trans (cell_setNe nbp)), ?_⟩
    unfold C.wpChain
    go_wp2_with fail
    refine ⟨HFB.out _ (fun j => (cell_setNe nbp).trans (cell_setNe nbp)), ?_⟩
    rw [C.wpChain_zero]
    have PS1 : Hid (PS w A m f e br bb c s i bp (prV m x y z 0 0) (((w5.drew.setCell ⟨bp, 0, none⟩ (.int .i64 x)).setCell ⟨bp, 1, none⟩ (.int .i64 y)).setCell ⟨bp, 3, none⟩ (.int .i64 z)) A m (i + 3) false) :=
      (((PS0.out.fresh ((Fr.refl _ _).drew)).setP (p' := prV m x 0 0 0 0) 0 (.int .i64 x) rfl).setP (p' := prV m x y 0 0 0) 1 (.int .i64 y) rfl).setP (p' := prV m x y z 0 0) 3 (.int .i64 z) rfl
    by_cases hbad : 3 < x ∨ y < x ∨ 12 < y
    · have HF : Hid (PS w A m f e br bb c s i bp (prV m x y z 0 0) ((((w5.drew.setCell ⟨bp, 0, none⟩ (.int .i64 x)).setCell ⟨bp, 1, none⟩ (.int .i64 y)).setCell ⟨bp, 3, none⟩ (.int .i64 z)).setCell ⟨br, 2, none⟩ (.bool true)) A m (i + 3) true) := PS1.out.ofRd PS1.out.ld.rd.setB (Fr.setCell (S := fun k => k = br) (Fr.refl _ _) (p := ⟨br, 2, none⟩) (.inl rfl) _) (Nat.le_refl _)
      have HN : Hid (St1 m m s i (i + 3) x y z z true) := ⟨⟨rfl, rfl⟩, .inr ⟨rfl, by have := HPR.out; rw [if_pos hbad] at this; exact this⟩⟩
      have nbr : br ≠ bp := fun e => by have h1 := PS0.out.ld.l1; rw [e, hob] at h1; omega
      clear HPR PS0 PS1
      by_cases h1 : 3 < x
      · have hx3 : (3 : Int) < (x : Int) := by omega
        clear hbad
        go_wp2_with fail
        exact C1.out bp x y z _ _ A m (i + 3) true HF.out (by omega) HN.out ⟨by kernel_rfl, by kernel_rfl, by kernel_rfl, by kernel_rfl, rfl⟩
      have hx3 : ¬ (3 : Int) < (x : Int) := by omega
      by_cases h2 : y < x
      · have hxy : (y : Int) < (x : Int) := by omega
        clear hbad
        go_wp2_with fail
        exact C1.out bp x y z _ _ A m (i + 3) true HF.out (by omega) HN.out ⟨by kernel_rfl, by kernel_rfl, by kernel_rfl, by kernel_rfl, rfl⟩
      have hxy : ¬ (y : Int) < (x : Int) := by omega
      have hy12 : (12 : Int) < (y : Int) := by omega
      clear hbad
      go_wp2_with fail
      exact C1.out bp x y z _ _ A m (i + 3) true HF.out (by omega) HN.out ⟨by kernel_rfl, by kernel_rfl, by kernel_rfl, by kernel_rfl, rfl⟩
    · have HN : Hid (St1 m m s i (i + 3) x y z z false) := ⟨⟨rfl, rfl⟩, .inl ⟨rfl, by have := HPR.out; rw [if_neg hbad] at this; exact this⟩⟩
      have hx3 : ¬ (3 : Int) < (x : Int) := by omega
      have hxy : ¬ (y : Int) < (x : Int) := by omega
      have hy12 : ¬ (12 : Int) < (y : Int) := by omega
      clear HPR PS0 hbad
      go_wp2_with fail
      exact C1.out bp x y z _ _ A m (i + 3) false PS1.out (by omega) HN.out ⟨by kernel_rfl, by kernel_rfl, by kernel_rfl, by kernel_rfl, rfl⟩
  · have T3 := rtake_no L1.rd (n := 3) (by omega) (.inr (by omega))
    refine T3.mono ?_
    rintro e' w5 ⟨rfl, R5, F5⟩
    obtain ⟨L5, S5⟩ := L1.ofRd R5 F5
    have hno : prR m s i = none := by
      unfold prR
      rw [protoP_is, rdTake_no (by omega) hile]
    have HF : Hid (PrPost w A m f e br bb c s i (.returned (.tuple #[])) w5) := ⟨A, m, i, true, rfl, L5, (VSt.fresh FW).trans S5, Nat.le_refl _, ⟨rfl, rfl, rfl, rfl, rfl, rfl⟩, HLN.out, .inr ⟨rfl, hno⟩⟩
    obtain ⟨c0, c1, c2⟩ := R5.cells
    have cl := R5.here.lt
    clear L5 S5 R5 F5 FW hpb L1 T3 hno
    go_wp2_with fail
    exact (hR.out bp _ _ ⟨by kernel_rfl, by kernel_rfl, by kernel_rfl, by kernel_rfl, rfl⟩ HF.out).1
end
end Go.Proofs.Qxb6500574aGreatDoor
