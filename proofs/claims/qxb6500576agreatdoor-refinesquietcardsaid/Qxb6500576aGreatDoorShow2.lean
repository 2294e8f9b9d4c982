/-
  THE WALK of prep.Prog.Show.
-/
import Derived.Test.Qxb6500576aGreatDoorShow
namespace Go.Proofs.Qxb6500576aGreatDoor
open Go Go.RowKit
set_option linter.unusedVariables false
set_option linter.unusedSimpArgs false

def funT (x : FunD × List Flat) : List UInt8 := [70, 32] ++ (x.1.params ++ ([62] ++ (x.1.results ++ ([43] ++ (x.1.locals ++ ([32] ++ x.2.flatMap flatT))))))
def ProgD.head (p : ProgD) : List UInt8 := numT p.nimp ++ (numT p.min ++ numT p.max)
def ProgD.show (p : ProgD) : List UInt8 := p.head ++ (p.funs.zip p.codes).flatMap funT
structure ShowOk (p : ProgD) : Prop where
  nf : p.funs.length ≤ 10
  nc : ∀ c ∈ p.codes, c.length ≤ 200
  np : ∀ u ∈ p.funs, u.params.length ≤ 10 ∧ u.results.length ≤ 10 ∧ u.locals.length ≤ 10
theorem take_flatMap {α : Type} (f : α → List UInt8) (l : List α) (i : Nat) (x : α) (h : l[i]? = some x) : (l.take (i + 1)).flatMap f = (l.take i).flatMap f ++ f x := by
  obtain ⟨hl, hx⟩ := List.getElem?_eq_some_iff.1 h
  rw [List.take_succ_eq_append_getElem hl, List.flatMap_append, hx]
  simp
theorem ba_app5 (X a b c : List UInt8) : (⟨X.toArray⟩ : ByteArray) ++ ⟨#[70, 32]⟩ ++ ⟨a.toArray⟩ ++ ⟨#[62]⟩ ++ ⟨b.toArray⟩ ++ ⟨#[43]⟩ ++ ⟨c.toArray⟩ ++ ⟨#[32]⟩ = ⟨(X ++ ([70, 32] ++ (a ++ ([62] ++ (b ++ ([43] ++ (c ++ [32]))))))).toArray⟩ := by
  have h1 : (⟨#[70, 32]⟩ : ByteArray) = ⟨[70, 32].toArray⟩ := rfl
  have h2 : (⟨#[62]⟩ : ByteArray) = ⟨[62].toArray⟩ := rfl
  have h3 : (⟨#[43]⟩ : ByteArray) = ⟨[43].toArray⟩ := rfl
  have h4 : (⟨#[32]⟩ : ByteArray) = ⟨[32].toArray⟩ := rfl
  rw [h1, h2, h3, h4, ba_app, ba_app, ba_app, ba_app, ba_app, ba_app, ba_app]
  simp

theorem ix0 (a b c d : Int) (w : World) : (Instr.index 102 (.agg #[.int .i64 a, .int .i64 b, .int .i64 c, .int .i64 d]) (.int .i64 0)).run Tryz.prog w = .ok (.int .i64 a) w := by kernel_rfl
theorem ix1 (a b c d : Int) (w : World) : (Instr.index 102 (.agg #[.int .i64 a, .int .i64 b, .int .i64 c, .int .i64 d]) (.int .i64 1)).run Tryz.prog w = .ok (.int .i64 b) w := by kernel_rfl
theorem ix2 (a b c d : Int) (w : World) : (Instr.index 102 (.agg #[.int .i64 a, .int .i64 b, .int .i64 c, .int .i64 d]) (.int .i64 2)).run Tryz.prog w = .ok (.int .i64 c) w := by kernel_rfl
theorem ix3 (a b c d : Int) (w : World) : (Instr.index 102 (.agg #[.int .i64 a, .int .i64 b, .int .i64 c, .int .i64 d]) (.int .i64 3)).run Tryz.prog w = .ok (.int .i64 d) w := by kernel_rfl
set_option maxRecDepth 100000 in
set_option maxHeartbeats 4000000 in
theorem show_any (S : Nat → Prop) (bp : Nat) (L : ProgL) (p : ProgD) (w : World) (h : ProgRep S w bp L p) (ho : ShowOk p) :
    Calls Tryz.prog 14 #[.pointer (some ⟨bp, 0, none⟩)] w fun e w' => ∃ t : List UInt8, e = .returned (sv t) ∧ Hid (t = p.show) ∧ Fr (fun _ => False) w w' := by
  obtain ⟨fa, fc, cvs⟩ := L
  have c0 := h.funs.here.cell 0
  simp at c0
  have H : Hid (ProgRep S w bp ⟨fa, fc, cvs⟩ p) := h
  have H1 : Hid (Calls _ _ _ _ _) := num_named [] p.nimp w (by simp)
  have hnf := ho.nf
  have HO : Hid (ShowOk p) := ho
  clear h ho
  go_enter Tryz.func14, Tryz.ntmps14
  go_wp2_with fail
  refine H1.out.mono ?_
  rintro e w1 ⟨t1, rfl, T1, l1, hF1⟩
  simp only [List.length_nil] at l1
  have R1 := H.out.fresh hF1
  have c1 := R1.funs.here.cell 1
  simp at c1
  have HF1 : Hid (Fr (fun _ => False) w w1) := hF1
  have H2 : Hid (Calls _ _ _ _ _) := num_named t1 p.min w1 (by omega)
  clear hF1 R1 H1
  go_wp2_with fail
  refine H2.out.mono ?_
  rintro e w2 ⟨t2, rfl, T2, l2, hF2⟩
  have HF2 : Hid (Fr (fun _ => False) w w2) := HF1.out.trans hF2 (fun _ _ h => h)
  have R2 := H.out.fresh HF2.out
  have c2 := R2.funs.here.cell 2
  simp at c2
  have H3 : Hid (Calls _ _ _ _ _) := num_named t2 p.max w2 (by omega)
  clear hF2 R2 H2 HF1 c1
  go_wp2_with fail
  refine H3.out.mono ?_
  rintro e w3 ⟨t3, rfl, T3, l3, hF3⟩
  have HF3 : Hid (Fr (fun _ => False) w w3) := HF2.out.trans hF3 (fun _ _ h => h)
  have R3 := H.out.fresh HF3.out
  have c4 := R3.funs.here.cell 4
  simp at c4
  have HT : Hid (t3 = p.head) := by
    show t3 = _
    rw [T3.out, T2.out, T1.out]
    simp only [ProgD.head, List.nil_append, List.append_assoc]
  have hl3 : t3.length ≤ 66 := by omega
  clear hF3 R3 H3 HF2 c2 T1 T2 T3 l1 l2 l3
  go_wp2
  go_loopw [32, 3] (fun t u wr => ∃ (i : Nat) (X : List UInt8), i ≤ p.funs.length ∧ t = .int .i64 i ∧ u = sv X ∧ X.length ≤ 66 + i * 20000 ∧ Hid (X = p.head ++ ((p.funs.zip p.codes).take i).flatMap funT) ∧ Hid (Fr (fun _ => False) w wr)) (fun t _ _ => p.funs.length - (intOf t).toNat)
  case atStart => exact ⟨0, t3, Nat.zero_le _, rfl, rfl, by omega, by show t3 = _; rw [HT.out]; simp, HF3⟩
  case round =>
    obtain ⟨i, X, hi, rfl, rfl, hXl, HX, G1⟩ := hrel
    by_cases hlt : i < p.funs.length
    · have R := H.out.fresh G1.out
      obtain ⟨u, hu⟩ : ∃ u, p.funs[i]? = some u := ⟨_, List.getElem?_eq_getElem hlt⟩
      have hclen := R.clen
      obtain ⟨c, hc⟩ : ∃ c, p.codes[i]? = some c := ⟨_, List.getElem?_eq_getElem (by omega)⟩
      obtain ⟨g, cv, hfa, hcv, d0, d1, d2, d3⟩ := R.funs.at hu
      have hco := R.codes i cv c hcv hc
      have hrow := R.funs.row
      rw [hfa] at hrow
      have hgl := owns_lt hrow g rfl
      obtain ⟨q1, q2, q3⟩ := HO.out.np u (List.mem_of_getElem? hu)
      have q4 := HO.out.nc c (List.mem_of_getElem? hc)
      obtain ⟨ca, cc, hcs⟩ : ∃ ca cc, cv = .slice ca c.length cc := by
        rcases hco.2 with ⟨h1, h2⟩ | ⟨g, cap, cur, h1, _⟩
        · exact ⟨none, 0, by rw [h1, h2]⟩
        · exact ⟨_, _, h1⟩
      subst hcs
      have hz : (p.funs.zip p.codes)[i]? = some (u, c) := by rw [List.getElem?_zip_eq_some]; exact ⟨hu, hc⟩
      have HZ : Hid (((p.funs.zip p.codes).take (i + 1)).flatMap funT = ((p.funs.zip p.codes).take i).flatMap funT ++ funT (u, c)) := take_flatMap _ _ _ _ hz
      have HCO : Hid (∀ x, Fr (fun _ => False) w x → x.ownsRow 0 97 4 (.slice ca c.length cc) c.length (flatCells c)) := fun x hx => (H.out.fresh hx).codes i _ c hcv hc
      obtain ⟨up, ur, ul⟩ := u
      simp only at d0 d1 d2 d3 q1 q2 q3
      have e5 := ba_app5 X up ur ul
      obtain ⟨Y, hY, hYl⟩ : ∃ Y, X ++ ([70, 32] ++ (up ++ ([62] ++ (ur ++ ([43] ++ (ul ++ [32])))))) = Y ∧ Y.length ≤ 66 + i * 20000 + 40 := ⟨_, rfl, by simp; omega⟩
      rw [hY] at e5
      have HY : Hid (X ++ ([70, 32] ++ (up ++ ([62] ++ (ur ++ ([43] ++ (ul ++ [32])))))) = Y) := hY
      simp only at hfa
      subst hfa
      clear R hu hc hcv hco hrow hz hY
      obtain ⟨wB, hwB⟩ : ∃ wB, wB = wr := ⟨_, rfl⟩
      subst hwB
      go_wp2
      go_loopw [53, 3] (fun t u wr => ∃ (j : Nat) (Z : List UInt8), j ≤ c.length ∧ t = .int .i64 j ∧ u = sv Z ∧ Z.length ≤ 66 + i * 20000 + 40 + j * 88 ∧ Hid (Z = Y ++ (c.take j).flatMap flatT) ∧ Hid (Fr (fun _ => False) w wr)) (fun t _ _ => c.length - (intOf t).toNat)
      case atStart => exact ⟨0, Y, Nat.zero_le _, rfl, rfl, by omega, by show Y = _; simp, G1.out.alloc _⟩
      case round =>
        obtain ⟨j, Z, hj, rfl, rfl, hZl, HZZ, G2⟩ := hrel
        by_cases hjl : j < c.length
        · obtain ⟨x, hx⟩ : ∃ x, c[j]? = some x := ⟨_, List.getElem?_eq_getElem hjl⟩
          have hrow2 := HCO.out wr G2.out
          obtain ⟨gc, hgc, hcc⟩ := owns_some hrow2 (by omega)
          have b0 := hcc (j * 4 + 0) (by omega)
          have b1 := hcc (j * 4 + 1) (by omega)
          have b2 := hcc (j * 4 + 2) (by omega)
          have b3 := hcc (j * 4 + 3) (by omega)
          rw [flatCells_at _ _ _ x hx (by omega)] at b0 b1 b2 b3
          simp [Flat.cells] at b0 b1 b2 b3
          have hgcl := owns_lt hrow2 gc (by rw [hgc]; rfl)
          have HXJ : Hid ((c.take (j + 1)).flatMap flatT = (c.take j).flatMap flatT ++ flatT x) := take_flatMap _ _ _ _ hx
          subst hgc
          obtain ⟨xo, xi, xk, xc⟩ := x
          simp only at b0 b1 b2 b3
          clear hrow2 hcc hx
          obtain ⟨wC, hwC⟩ : ∃ wC, wC = wr := ⟨_, rfl⟩
          subst hwC
          have i0 := ix0 xo xi xk xc
          have i1 := ix1 xo xi xk xc
          have i2 := ix2 xo xi xk xc
          have i3 := ix3 xo xi xk xc
          have VV : Hid (Fr (fun _ => False) w (wC.alloc (.cells #[.int .i64 xo, .int .i64 xi, .int .i64 xk, .int .i64 xc] 97))) := G2.out.alloc _
          go_wp2
          refine wp_loop_rounds 5 ?_
          rw [rounds_succ]
          have N1 : Hid (Calls _ _ _ _ _) := num_named Z xo (wC.alloc (.cells #[.int .i64 xo, .int .i64 xi, .int .i64 xk, .int .i64 xc] 97)) (by omega)
          go_wp2_with fail
          refine N1.out.mono ?_
          rintro e v1 ⟨z1, rfl, Z1, m1, hV1⟩
          have V1 : Hid (Fr (fun _ => False) w v1) := VV.out.trans hV1 (fun _ _ h => h)
          clear hV1 N1
          go_wp2
          rw [rounds_succ]
          have N2 : Hid (Calls _ _ _ _ _) := num_named z1 xi v1 (by omega)
          go_wp2_with fail
          refine N2.out.mono ?_
          rintro e v2 ⟨z2, rfl, Z2, m2, hV2⟩
          have V2 : Hid (Fr (fun _ => False) w v2) := V1.out.trans hV2 (fun _ _ h => h)
          clear hV2 N2
          go_wp2
          rw [rounds_succ]
          have N3 : Hid (Calls _ _ _ _ _) := num_named z2 xk v2 (by omega)
          go_wp2_with fail
          refine N3.out.mono ?_
          rintro e v3 ⟨z3, rfl, Z3, m3, hV3⟩
          have V3 : Hid (Fr (fun _ => False) w v3) := V2.out.trans hV3 (fun _ _ h => h)
          clear hV3 N3
          go_wp2
          rw [rounds_succ]
          have N4 : Hid (Calls _ _ _ _ _) := num_named z3 xc v3 (by omega)
          go_wp2_with fail
          refine N4.out.mono ?_
          rintro e v4 ⟨z4, rfl, Z4, m4, hV4⟩
          have V4 : Hid (Fr (fun _ => False) w v4) := V3.out.trans hV4 (fun _ _ h => h)
          clear hV4 N4
          go_wp2
          rw [rounds_succ]
          go_wp2
          go_roundw
          case rel =>
            refine ⟨j + 1, z4, by omega, by go_num, rfl, by omega, ?_, V4⟩
            show z4 = _
            rw [Z4.out, Z3.out, Z2.out, Z1.out, HZZ.out, HXJ.out]
            simp only [flatT, List.append_assoc]
          case measure => simp [intOf]; omega
        · have hje : j = c.length := by omega
          have HE : Hid (Z = Y ++ c.flatMap flatT) := by
            show Z = _
            rw [HZZ.out, hje, List.take_length]
          clear HZZ
          go_wp2
          go_roundw
          case rel =>
            refine ⟨i + 1, Z, by omega, by go_num, rfl, by omega, ?_, G2⟩
            show Z = _
            rw [HE.out, HZ.out, ← HY.out, HX.out]
            simp only [funT, List.append_assoc]
          case measure => simp [intOf]; omega
    · have hie : i = p.funs.length := by omega
      have HE : Hid (X = p.show) := by
        show X = _
        rw [HX.out, hie]
        unfold ProgD.show
        rw [List.take_of_length_le (by simp; omega)]
      clear HX
      go_wp2
      go_ret
      exact ⟨X, rfl, HE, G1.out⟩
end Go.Proofs.Qxb6500576aGreatDoor
