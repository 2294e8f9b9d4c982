/-
  THE WALK of prepm.Prog.Show.
-/
import Derived.Test.Qxb6500576aGreatDoorMProgOps
import Derived.Test.Qxb6500576aGreatDoorShow2
namespace Go.Proofs.Qxb6500576aGreatDoor
open Go Go.RowKit
set_option linter.unusedVariables false
set_option linter.unusedSimpArgs false

set_option maxRecDepth 100000 in
set_option maxHeartbeats 4000000 in
theorem mshow_any (S : Nat → Prop) (bp : Nat) (L : MPL) (p : ProgD) (srcs : List (List Ins)) (w : World) (h : MProg S w bp L p srcs) (ho : ShowOk p) :
    Calls Tryz.prog 15 #[.pointer (some ⟨bp, 0, none⟩)] w fun e w' => ∃ t : List UInt8, e = .returned (sv t) ∧ Hid (t = p.show) ∧ Fr (fun _ => False) w w' := by
  obtain ⟨fa, fc, vs⟩ := L
  have c0 := h.here.cell 0
  simp at c0
  have H : Hid (MProg S w bp ⟨fa, fc, vs⟩ p srcs) := h
  have H1 : Hid (Calls _ _ _ _ _) := num_named [] p.nimp w (by simp)
  have hnf := ho.nf
  have HO : Hid (ShowOk p) := ho
  clear h ho
  go_enter Tryz.func15, Tryz.ntmps15
  go_wp2_with fail
  refine H1.out.mono ?_
  rintro e w1 ⟨t1, rfl, T1, l1, hF1⟩
  simp only [List.length_nil] at l1
  have R1 := H.out.fresh hF1
  have c1 := R1.here.cell 1
  simp at c1
  have HF1 : Hid (Fr (fun _ => False) w w1) := hF1
  have H2 : Hid (Calls _ _ _ _ _) := num_named t1 p.min w1 (by omega)
  clear hF1 R1 H1
  go_wp2_with fail
  refine H2.out.mono ?_
  rintro e w2 ⟨t2, rfl, T2, l2, hF2⟩
  have HF2 : Hid (Fr (fun _ => False) w w2) := HF1.out.trans hF2 (fun _ _ h => h)
  have R2 := H.out.fresh HF2.out
  have c2 := R2.here.cell 2
  simp at c2
  have H3 : Hid (Calls _ _ _ _ _) := num_named t2 p.max w2 (by omega)
  clear hF2 R2 H2 HF1 c1
  go_wp2_with fail
  refine H3.out.mono ?_
  rintro e w3 ⟨t3, rfl, T3, l3, hF3⟩
  have HF3 : Hid (Fr (fun _ => False) w w3) := HF2.out.trans hF3 (fun _ _ h => h)
  have R3 := H.out.fresh HF3.out
  have c4 := R3.here.cell 4
  simp at c4
  have HT : Hid (t3 = p.head) := by
    show t3 = _
    rw [T3.out, T2.out, T1.out]
    simp only [ProgD.head, List.nil_append, List.append_assoc]
  have hl3 : t3.length ≤ 66 := by omega
  clear hF3 R3 H3 HF2 c2 T1 T2 T3 l1 l2 l3
  go_wp2
  clear c4
  go_loopw [4, 3] (fun t u wr => ∃ (i : Nat) (X : List UInt8), i ≤ p.funs.length ∧ t = .int .i64 i ∧ u = sv X ∧ X.length ≤ 66 + i * 20000 ∧ Hid (X = p.head ++ ((p.funs.zip p.codes).take i).flatMap funT) ∧ Hid (Fr (fun _ => False) w wr)) (fun t _ _ => p.funs.length - (intOf t).toNat)
  case atStart => exact ⟨0, t3, Nat.zero_le _, rfl, rfl, by omega, by show t3 = _; rw [HT.out]; simp, HF3⟩
  case round =>
    obtain ⟨i, X, hi, rfl, rfl, hXl, HX, G1⟩ := hrel
    have R := H.out.fresh G1.out
    have c4 := R.here.cell 4
    simp at c4
    have lbp := R.here.lt
    by_cases hlt : i < p.funs.length
    · obtain ⟨u, hu⟩ : ∃ u, p.funs[i]? = some u := ⟨_, List.getElem?_eq_getElem hlt⟩
      have hclen := R.cl
      obtain ⟨c, hc⟩ : ∃ c, p.codes[i]? = some c := ⟨_, List.getElem?_eq_getElem (by omega)⟩
      obtain ⟨g, vv, hfa, hcv, hcells, hgl, _⟩ := R.at hu
      have d0 := hcells 0 (by omega)
      have d1 := hcells 1 (by omega)
      have d2 := hcells 2 (by omega)
      have d3 := hcells 3 (by omega)
      have d4 := hcells 4 (by omega)
      simp [mfunCells] at d0 d1 d2 d3 d4
      have hco := R.code i vv c hcv hc
      obtain ⟨q1, q2, q3⟩ := HO.out.np u (List.mem_of_getElem? hu)
      have q4 := HO.out.nc c (List.mem_of_getElem? hc)
      obtain ⟨sq, hsq⟩ := R.has_src hcv
      have hsr := R.src i vv sq hcv hsq
      obtain ⟨v1, v2⟩ := vv
      simp only at d3 d4 hco hsr
      obtain ⟨sa9, sc9, hs9⟩ : ∃ a cap, v1 = .slice a sq.length cap := by
        rcases hsr.2 with ⟨h1, h2⟩ | ⟨g, cap, cur, h1, _⟩
        · exact ⟨none, 0, by rw [h1, h2]⟩
        · exact ⟨_, _, h1⟩
      subst hs9
      clear hsr hsq
      obtain ⟨ca, cc, hcs⟩ : ∃ ca cc, v2 = .slice ca c.length cc := by
        rcases hco.2 with ⟨h1, h2⟩ | ⟨g, cap, cur, h1, _⟩
        · exact ⟨none, 0, by rw [h1, h2]⟩
        · exact ⟨_, _, h1⟩
      subst hcs
      have hz : (p.funs.zip p.codes)[i]? = some (u, c) := by rw [List.getElem?_zip_eq_some]; exact ⟨hu, hc⟩
      have HZ : Hid (((p.funs.zip p.codes).take (i + 1)).flatMap funT = ((p.funs.zip p.codes).take i).flatMap funT ++ funT (u, c)) := take_flatMap _ _ _ _ hz
      have HCO : Hid (∀ x, Fr (fun _ => False) w x → x.ownsRow 0 97 4 (.slice ca c.length cc) c.length (flatCells c)) := fun x hx => (H.out.fresh hx).code i _ c hcv hc
      obtain ⟨up, ur, ul⟩ := u
      simp only at d0 d1 d2 q1 q2 q3
      have e5 := ba_app5 X up ur ul
      obtain ⟨Y, hY, hYl⟩ : ∃ Y, X ++ ([70, 32] ++ (up ++ ([62] ++ (ur ++ ([43] ++ (ul ++ [32])))))) = Y ∧ Y.length ≤ 66 + i * 20000 + 40 := ⟨_, rfl, by simp; omega⟩
      rw [hY] at e5
      have HY : Hid (X ++ ([70, 32] ++ (up ++ ([62] ++ (ur ++ ([43] ++ (ul ++ [32])))))) = Y) := hY
      simp only at hfa
      subst hfa
      clear R hu hc hcv hco hz hY hcells
      obtain ⟨wB, hwB⟩ : ∃ wB, wB = wr := ⟨_, rfl⟩
      subst hwB
      have HU0 : Hid (Has (wB.alloc (.cells #[sv up, sv ur, sv ul, .slice sa9 sq.length sc9, .slice ca c.length cc] 72)) wB.heap.size #[sv up, sv ur, sv ul, .slice sa9 sq.length sc9, .slice ca c.length cc] 72) := Has.new _ _ _
      have hub : Hid (wB.heap.size = wB.heap.size) := rfl
      go_wp2
      go_loopw [6, 3] (fun t u wr => ∃ (j : Nat) (Z : List UInt8), j ≤ c.length ∧ t = .int .i64 j ∧ u = sv Z ∧ Z.length ≤ 66 + i * 20000 + 40 + j * 88 ∧ Hid (Z = Y ++ (c.take j).flatMap flatT) ∧ Hid (Fr (fun _ => False) w wr) ∧ Hid (Has wr wB.heap.size #[sv up, sv ur, sv ul, .slice sa9 sq.length sc9, .slice ca c.length cc] 72)) (fun t _ _ => c.length - (intOf t).toNat)
      case atStart => exact ⟨0, Y, Nat.zero_le _, rfl, rfl, by omega, by show Y = _; simp, G1.out.alloc _, HU0⟩
      case round =>
        obtain ⟨j, Z, hj, rfl, rfl, hZl, HZZ, G2, G3⟩ := hrel
        clear c4 lbp d0 d1 d2 d3 d4 e5
        generalize wB.heap.size = bu at *
        have f4 := G3.out.cell 4
        simp at f4
        have fl := G3.out.lt
        by_cases hjl : j < c.length
        · obtain ⟨x, hx⟩ : ∃ x, c[j]? = some x := ⟨_, List.getElem?_eq_getElem hjl⟩
          have HXJ : Hid ((c.take (j + 1)).flatMap flatT = (c.take j).flatMap flatT ++ flatT x) := take_flatMap _ _ _ _ hx
          obtain ⟨gc, hgc, hx9⟩ := owns_some (HCO.out wr G2.out) (by omega)
          clear hx9
          subst hgc
          have CELLS : Hid (∀ y, Fr (fun _ => False) w y → y.cell? ⟨gc, j * 4, none⟩ = some (.int .i64 x.op) ∧ y.cell? ⟨gc, j * 4 + 1, none⟩ = some (.int .i64 x.imm) ∧ y.cell? ⟨gc, j * 4 + 2, none⟩ = some (.int .i64 x.keep) ∧ y.cell? ⟨gc, j * 4 + 3, none⟩ = some (.int .i64 x.cut) ∧ gc < y.heap.size) := by
            intro y hy
            have hr := HCO.out y hy
            obtain ⟨g3, hg3, hcc⟩ := owns_some hr (by omega)
            obtain rfl : gc = g3 := by simpa using hg3
            have b0 := hcc (j * 4 + 0) (by omega)
            have b1 := hcc (j * 4 + 1) (by omega)
            have b2 := hcc (j * 4 + 2) (by omega)
            have b3 := hcc (j * 4 + 3) (by omega)
            rw [flatCells_at _ _ _ x hx (by omega)] at b0 b1 b2 b3
            simp [Flat.cells] at b0 b1 b2 b3
            exact ⟨b0, b1, b2, b3, owns_lt hr gc rfl⟩
          obtain ⟨xo, xi, xk, xc⟩ := x
          simp only at CELLS
          clear hx
          obtain ⟨wC, hwC⟩ : ∃ wC, wC = wr := ⟨_, rfl⟩
          subst hwC
          obtain ⟨b0, _, _, _, gl0⟩ := CELLS.out wC G2.out
          have N1 : Hid (Calls _ _ _ _ _) := num_named Z xo wC (by omega)
          go_wp2_with fail
          refine N1.out.mono ?_
          rintro e v1' ⟨z1, rfl, Z1, m1, hV1⟩
          have V1 : Hid (Fr (fun _ => False) w v1') := G2.out.trans hV1 (fun _ _ h => h)
          have U1 : Hid (Has v1' bu _ _) := G3.out.fr hV1 id
          clear hV1 N1 b0 gl0 f4 fl
          obtain ⟨_, b1, _, _, gl1⟩ := CELLS.out v1' V1.out
          have f4 := U1.out.cell 4
          simp at f4
          have fl := U1.out.lt
          have N2 : Hid (Calls _ _ _ _ _) := num_named z1 xi v1' (by omega)
          go_wp2_with fail
          refine N2.out.mono ?_
          rintro e v2' ⟨z2, rfl, Z2, m2, hV2⟩
          have V2 : Hid (Fr (fun _ => False) w v2') := V1.out.trans hV2 (fun _ _ h => h)
          have U2 : Hid (Has v2' bu _ _) := U1.out.fr hV2 id
          clear hV2 N2 b1 gl1 f4 fl
          obtain ⟨_, _, b2, _, gl2⟩ := CELLS.out v2' V2.out
          have f4 := U2.out.cell 4
          simp at f4
          have fl := U2.out.lt
          have N3 : Hid (Calls _ _ _ _ _) := num_named z2 xk v2' (by omega)
          go_wp2_with fail
          refine N3.out.mono ?_
          rintro e v3' ⟨z3, rfl, Z3, m3, hV3⟩
          have V3 : Hid (Fr (fun _ => False) w v3') := V2.out.trans hV3 (fun _ _ h => h)
          have U3 : Hid (Has v3' bu _ _) := U2.out.fr hV3 id
          clear hV3 N3 b2 gl2 f4 fl
          obtain ⟨_, _, _, b3, gl3⟩ := CELLS.out v3' V3.out
          have f4 := U3.out.cell 4
          simp at f4
          have fl := U3.out.lt
          have N4 : Hid (Calls _ _ _ _ _) := num_named z3 xc v3' (by omega)
          go_wp2_with fail
          refine N4.out.mono ?_
          rintro e v4' ⟨z4, rfl, Z4, m4, hV4⟩
          have V4 : Hid (Fr (fun _ => False) w v4') := V3.out.trans hV4 (fun _ _ h => h)
          have U4 : Hid (Has v4' bu #[sv up, sv ur, sv ul, .slice sa9 sq.length sc9, .slice (some ⟨gc, 0, none⟩) c.length cc] 72) := U3.out.fr hV4 id
          clear hV4 N4 b3 gl3 f4 fl U1 U2 U3
          go_wp2
          go_roundw
          case rel =>
            refine ⟨j + 1, z4, by omega, by go_num, rfl, by omega, ?_, V4, U4⟩
            show z4 = _
            rw [Z4.out, Z3.out, Z2.out, Z1.out, HZZ.out, HXJ.out]
            simp only [flatT, List.append_assoc]
          case measure => simp [intOf]; omega
        · have hje : j = c.length := by omega
          have HE : Hid (Z = Y ++ c.flatMap flatT) := by
            show Z = _
            rw [HZZ.out, hje, List.take_length]
          clear HZZ
          go_wp2
          go_roundw
          case rel =>
            refine ⟨i + 1, Z, by omega, by go_num, rfl, by omega, ?_, G2⟩
            show Z = _
            rw [HE.out, HZ.out, ← HY.out, HX.out]
            simp only [funT, List.append_assoc]
          case measure => simp [intOf]; omega
    · have hie : i = p.funs.length := by omega
      have hpl : p.codes.length = p.funs.length := R.cl
      have HE : Hid (X = p.show) := by
        show X = _
        rw [HX.out, hie]
        unfold ProgD.show
        rw [List.take_of_length_le (by simp; omega)]
      clear HX R
      go_wp2
      go_ret
      exact ⟨X, rfl, HE, G1.out⟩
end Go.Proofs.Qxb6500576aGreatDoor
