/-
  THE WALK of vm: Show.
-/
import Derived.Test.Qxb6500579aGreatUShow
namespace Go.Proofs.Qxb6500579aGreat
open Go Go.RowKit
set_option linter.unusedVariables false
set_option linter.unusedSimpArgs false
theorem range_flat {α : Type} (g : Nat → List α) (k : Nat) : (List.range (k + 1)).flatMap g = (List.range k).flatMap g ++ g k := by
  rw [List.range_succ, List.flatMap_append]
  simp
theorem flat_lenLe {α β : Type} (g : α → List β) (B : Nat) : ∀ l : List α, (∀ x ∈ l, (g x).length ≤ B) → (l.flatMap g).length ≤ B * l.length := by
  intro l
  induction l with
  | nil => intro _; simp
  | cons a r ih =>
    intro h
    have h1 := ih (fun x hx => h x (by simp [hx]))
    have h2 := h a (by simp)
    simp only [List.flatMap_cons, List.length_append, List.length_cons, Nat.mul_add, Nat.mul_one]
    omega
theorem getUp_shw {K : Cx} {m : VMD} (S : Slp K m) {clo x : Nat} {q : ClD} (hq : m.clos[clo]? = some q) (hx : x < q.nup) : Shw (getUp m clo x) := by
  have hcl : clo < K.nc := by rw [← S.vi.kc]; exact (List.getElem?_eq_some_iff.1 hq).1
  have hgd : m.clos.getD clo cl0 = q := by simp [hq]
  exact (getUp_ok S.vi hcl (x := x) (by rw [hgd]; exact hx)).shw
theorem ups_len {K : Cx} {m : VMD} (S : Slp K m) {clo : Nat} {q : ClD} (hq : m.clos[clo]? = some q) {k : Nat} (hk : k ≤ q.nup) : (upsN m clo k).length ≤ 65 * k := by
  have := flat_lenLe (fun x => showV (getUp m clo x) ++ [44]) 65 (List.range k) (fun x hx => by
    have h1 := (getUp_shw S hq (x := x) (by have := List.mem_range.1 hx; omega)).len
    simp; omega)
  simpa [upsN] using this
theorem nup_le {K : Cx} {m : VMD} (V : VI K m) {clo : Nat} {q : ClD} (hq : m.clos[clo]? = some q) : q.nup ≤ 255 := by
  obtain ⟨k1, k2, k3⟩ := V.cl q (List.mem_of_getElem? hq)
  rw [k2]
  exact (V.txt.pr _ (by rw [List.getD_eq_getElem?_getD, List.getElem?_eq_getElem k1]; exact List.getElem_mem k1)).nu
theorem showCl_len {K : Cx} {m : VMD} (S : Slp K m) {i : Nat} {q : ClD} (hq : m.clos[i]? = some q) : (showCl m i).length ≤ 17000 := by
  have hgd : m.clos.getD i cl0 = q := by simp [hq]
  unfold showCl
  rw [hgd]
  have h1 := ups_len S hq (Nat.le_refl q.nup)
  have h2 := nup_le S.vi hq
  have h3 := itoaN_len q.p
  simp only [List.length_append, List.length_cons, List.length_nil]
  omega
theorem frs_len {K : Cx} {m : VMD} (S : Slp K m) {i : Nat} {t : ThD} (hi : m.ths[i]? = some t) {k : Nat} (hk : k ≤ t.frames.length) : ((List.range k).flatMap (showF m t)).length ≤ 9300 * k := by
  have := flat_lenLe (showF m t) 9300 (List.range k) (fun j hj => by
    have hl : j < t.frames.length := by have := List.mem_range.1 hj; omega
    exact showF_len S.vi hi (List.getElem?_eq_getElem hl) (S.sl i t hi).2.zero)
  simpa using this
theorem showTh_len {K : Cx} {m : VMD} (S : Slp K m) {i : Nat} {t : ThD} (hi : m.ths[i]? = some t) : (showTh m t).length ≤ 74500 := by
  unfold showTh
  have h1 := frs_len S hi (Nat.le_refl _)
  have h2 := (S.vi.th i t hi).fr.len
  have h3 := itoaN_len t.st
  have h4 := itoaN_len t.fn
  simp only [List.length_append, List.length_cons, List.length_nil]
  omega
theorem sv_cat (a b : Bs) : Value.string ((⟨a.toArray⟩ : ByteArray) ++ ⟨b.toArray⟩) = sv (a ++ b) := congrArg Value.string (sv_app a b)
section
variable {w : World} {A : VL} {m : VMD} {f e : Nat} {K : Cx}
set_option maxRecDepth 100000
set_option maxHeartbeats 1000000
theorem show_any (R : VRep w A m f e) (O : ShOk K m) (hf : f < 9223372036854775808) (he : e < 100) :
    Calls Tryz.prog 7 #[.pointer (some ⟨A.b, 0, none⟩)] w fun e' w' => e' = .returned (sv (showM ⟨m, f, e⟩)) ∧ Fr (fun _ => False) w w' := by
  obtain ⟨Q, HQ⟩ : ∃ Q : Ending → World → Prop, Hid ((fun e' w' => e' = .returned (sv (showM ⟨m, f, e⟩)) ∧ Fr (fun _ => False) w w') = Q) := ⟨_, rfl⟩
  rw [HQ.out]
  have HR : Hid (VRep w A m f e) := R
  have HO : Hid (ShOk K m) := O
  have c9 := R.cell0 9
  have c10 := R.cell0 10
  have c11 := R.cell0 11
  have c12 := R.cell0 12
  have bl := R.bl
  simp only [vmCells, List.getElem?_toArray, List.getElem?_cons_succ, List.getElem?_cons_zero, Sl.v] at c9 c10 c11 c12
  have ol := O.ol
  have h5 : m.ths.length ≤ 5 := by have := R.len5; omega
  obtain ⟨NT, HNT⟩ : ∃ n, Hid (m.ths.length = n) := ⟨_, rfl⟩
  obtain ⟨NO, HNO⟩ : ∃ n, Hid (m.out.length = n) := ⟨_, rfl⟩
  rw [HNT.out] at c9 h5
  rw [HNO.out] at c11 ol
  clear R O
  go_enter Tryz.func7, Tryz.ntmps7
  go_wp2_with fail
  refine (itoa_any f hf).mono ?_
  rintro e' w1 ⟨rfl, F1⟩
  have HF1 : Hid (Fr (fun _ => False) w w1) := F1
  have c9 := F1.cell c9
  have c11 := F1.cell c11
  have c12 := F1.cell c12
  have bl := Nat.lt_of_lt_of_le bl F1.size
  clear F1
  go_wp2_with fail
  refine (itoa_any e (by omega)).mono ?_
  rintro e' w2 ⟨rfl, F2⟩
  have HF2 : Hid (Fr (fun _ => False) w w2) := HF1.out.trans F2 (fun _ _ x => x)
  have c9 := F2.cell c9
  have c11 := F2.cell c11
  have bl := Nat.lt_of_lt_of_le bl F2.size
  clear F2
  go_wp2_with fail
  refine (itoa_any NO (by omega)).mono ?_
  rintro e' w3 ⟨rfl, F3⟩
  have HF3 : Hid (Fr (fun _ => False) w w3) := HF2.out.trans F3 (fun _ _ x => x)
  have c9 := F3.cell c9
  have c11 := F3.cell c11
  have bl := Nat.lt_of_lt_of_le bl F3.size
  clear F3
  have hcv := out_conv (HR.out.fresh HF3.out)
  rw [HNO.out] at hcv
  go_wp2_with fail
  have n1 := itoaN_len f
  have n2 := itoaN_len e
  have n3 := itoaN_len NO
  refine (joinN_any (B := w3.heap.size) (c := 8) (NP := 8) [[70], itoaN f, [32, 69], itoaN e, [32, 79], itoaN NO, [58], m.out] rfl (by omega) (by have := HNO.out; simp [flat3]; omega) (Has.newC _ _ _ rfl) (by simp [flat3])).mono ?_
  rintro e' w4 ⟨rfl, F4⟩
  have HF4 : Hid (Fr (fun _ => False) w w4) := (HF3.out.alloc _).trans F4 (fun _ _ x => x)
  have c9 := (((Fr.refl _ w3).alloc _).trans F4 (fun _ _ x => x)).cell c9
  have bl := Nat.lt_of_lt_of_le bl (((Fr.refl _ w3).alloc _).trans F4 (fun _ _ x => x)).size
  clear F4 c11 c12 c10 hcv
  obtain ⟨HD, HHD⟩ : ∃ FL : Bs, Hid (flat3 [[70], itoaN f, [32, 69], itoaN e, [32, 79], itoaN NO, [58], m.out] = FL) := ⟨_, rfl⟩
  rw [HHD.out]
  have hdl : HD.length ≤ 300 := by rw [← HHD.out]; have := HNO.out; simp [flat3]; omega
  go_wp2_with fail
  go_loopw [6, 50] (fun v6 v50 wr => ∃ (k : Nat), k ≤ NT ∧ v50 = .int .i64 k ∧ v6 = sv (HD ++ (m.ths.take k).flatMap (showTh m)) ∧ Hid (Fr (fun _ => False) w wr)) (fun _ v50 _ => NT - (intOf v50).toNat)
  case atStart => exact ⟨0, by omega, rfl, by simp, HF4⟩
  case round =>
    obtain ⟨k, hk, rfl, rfl, HFk⟩ := hrel
    have d9 := HFk.out.cell (HR.out.cell0 9)
    have dl := Nat.lt_of_lt_of_le HR.out.bl HFk.out.size
    simp only [vmCells, List.getElem?_toArray, List.getElem?_cons_succ, List.getElem?_cons_zero, Sl.v] at d9
    rw [HNT.out] at d9
    by_cases h3 : NT = k
    · subst h3
      have htk : m.ths.take NT = m.ths := List.take_of_length_le (by rw [HNT.out]; omega)
      rw [htk]
      obtain ⟨S1, HS1⟩ : ∃ s1, Hid (HD ++ m.ths.flatMap (showTh m) = s1) := ⟨_, rfl⟩
      have l1 : S1.length ≤ 300 + 74500 * 5 := by
        rw [← HS1.out, List.length_append]
        have := flat_lenLe (showTh m) 74500 m.ths (fun u hu => by
          obtain ⟨j, hj⟩ := List.getElem?_of_mem hu
          exact showTh_len (HO.out.th (fun x => by rw [x] at hj; simp at hj)) hj)
        rw [HNT.out] at this
        omega
      rw [HS1.out]
      have d6 : wr.cell? ⟨A.b, 6, none⟩ = some (.slice A.C.clos.a m.clos.length A.C.clos.c) := HFk.out.cell (HR.out.cell0 6)
      have hnc : m.clos.length ≤ 24 := by
        by_cases hz : m.clos = []
        · rw [hz]; simp
        · have := (HO.out.cl hz).vi; have h1 := this.kc; have h2 := this.cn; omega
      obtain ⟨NC, HNC⟩ : ∃ n, Hid (m.clos.length = n) := ⟨_, rfl⟩
      rw [HNC.out] at d6 hnc
      have HS1F : Hid (showM ⟨m, f, e⟩ = S1 ++ (List.range NC).flatMap (showCl m)) := by
        unfold showM showHd
        dsimp only
        rw [HNO.out, HHD.out, HS1.out, HNC.out]
        exact rfl
      clear htk d9 c9 bl c12
      go_wp2_with fail
      go_loopw [6, 96] (fun v6 v96 wr => ∃ (k : Nat), k ≤ NC ∧ v96 = .int .i64 k ∧ v6 = sv (S1 ++ (List.range k).flatMap (showCl m)) ∧ Hid (Fr (fun _ => False) w wr)) (fun _ v96 _ => NC - (intOf v96).toNat)
      case atStart => exact ⟨0, by omega, rfl, by simp, HFk⟩
      case round =>
        obtain ⟨k, hk, rfl, rfl, HFc⟩ := hrel
        by_cases h3 : NC = k
        · subst h3
          have FIN : Hid (Q (.returned (sv (S1 ++ (List.range NC).flatMap (showCl m)))) wr) := by rw [← HQ.out, ← HS1F.out]; exact ⟨rfl, HFc.out⟩
          obtain ⟨FL, HFL⟩ : ∃ FL : Bs, Hid (S1 ++ (List.range NC).flatMap (showCl m) = FL) := ⟨_, rfl⟩
          rw [HFL.out] at FIN ⊢
          go_wp2_with fail
          exact FIN.out
        · obtain ⟨q, hq⟩ : ∃ q, m.clos[k]? = some q := ⟨_, List.getElem?_eq_getElem (by rw [HNC.out]; omega)⟩
          have S := HO.out.cl (fun x => by rw [x] at hq; simp at hq)
          obtain ⟨gk, b1, b2, b3, b4, b5, b6⟩ := HR.out.core.clos.at clCells_len hq
          have k0 := HFc.out.cell (b5 0 (by omega))
          have k2 := HFc.out.cell (b5 2 (by omega))
          have d6 : wr.cell? ⟨A.b, 6, none⟩ = some (.slice A.C.clos.a m.clos.length A.C.clos.c) := HFc.out.cell (HR.out.cell0 6)
          have dl := Nat.lt_of_lt_of_le HR.out.bl HFc.out.size
          have kl := Nat.lt_of_lt_of_le b4 HFc.out.size
          rw [b1, HNC.out] at d6
          simp only [clCells, List.getElem?_cons_succ, List.getElem?_cons_zero, Nat.add_zero] at k0 k2
          have hp : q.p < 13 := by obtain ⟨z1, _⟩ := S.vi.cl q (List.mem_of_getElem? hq); have := S.vi.txt.pl; omega
          have hnu := nup_le S.vi hq
          have p1 : ((List.range k).flatMap (showCl m)).length ≤ 17000 * k := by
            have := flat_lenLe (showCl m) 17000 (List.range k) (fun u hu => showCl_len S (List.getElem?_eq_getElem (by rw [HNC.out]; have := List.mem_range.1 hu; omega)))
            simpa using this
          have HS : Hid (Slp K m) := S
          have HQQ : Hid (m.clos[k]? = some q) := hq
          obtain ⟨S2, HS2⟩ : ∃ s1, Hid (S1 ++ (List.range k).flatMap (showCl m) = s1) := ⟨_, rfl⟩
          have l2 : S2.length ≤ 300 + 74500 * 5 + 17000 * k := by rw [← HS2.out, List.length_append]; omega
          rw [HS2.out]
          have hkN : (k : Int) < (NC : Int) := by omega
          obtain ⟨qp, qu, qn⟩ := q
          dsimp only at hp hnu k0 k2
          clear S hq p1 b1 b2 b3 b4 b5 b6
          go_wp2_with fail
          refine (itoa_any qp (by omega)).mono ?_
          rintro e' w5 ⟨rfl, F5⟩
          have HF5 : Hid (Fr (fun _ => False) w w5) := HFc.out.trans F5 (fun _ _ x => x)
          clear F5
          go_wp2_with fail
          have n4 := itoaN_len qp
          refine (joinN_any (B := w5.heap.size) (c := 4) (NP := 4) [S2, [32, 67], itoaN qp, [91]] rfl (by omega) (by simp [flat3]; omega) (Has.newC _ _ _ rfl) (by simp [flat3]; omega)).mono ?_
          rintro e' w7 ⟨rfl, F7⟩
          have HF7 : Hid (Fr (fun _ => False) w w7) := (HF5.out.alloc _).trans F7 (fun _ _ x => x)
          clear F7
          obtain ⟨T0, HT0⟩ : ∃ t0, Hid (flat3 [S2, [32, 67], itoaN qp, [91]] = t0) := ⟨_, rfl⟩
          rw [HT0.out]
          have l0 : T0.length ≤ 400 + 74500 * 5 + 17000 * k := by rw [← HT0.out]; simp [flat3]; omega
          have HB : Hid (Has (w7.alloc (.cells #[.int .i64 k, .int .i64 0, .int .i64 0, .int .i64 0, .bool false] 71)) w7.heap.size #[.int .i64 k, .int .i64 0, .int .i64 0, .int .i64 0, .bool false] 71) := Has.newC _ _ _ rfl
          have HW : Hid (Fr (fun _ => False) w (w7.alloc (.cells #[.int .i64 k, .int .i64 0, .int .i64 0, .int .i64 0, .bool false] 71))) := HF7.out.alloc _
          go_wp2_with fail
          obtain ⟨W8, HW8⟩ : ∃ W8, Hid (w7.alloc (.cells #[.int .i64 k, .int .i64 0, .int .i64 0, .int .i64 0, .bool false] 71) = W8) := ⟨_, rfl⟩
          rw [HW8.out] at HB HW ⊢
          obtain ⟨B, HBB⟩ : ∃ b, Hid (w7.heap.size = b) := ⟨_, rfl⟩
          rw [HBB.out] at HB ⊢
          clear HW8 HBB
          go_loopw [6, 16] (fun v6 v16 wr => ∃ (x : Nat), x ≤ qn ∧ v16 = .int .i64 x ∧ v6 = sv (T0 ++ upsN m k x) ∧ Hid (Fr (fun _ => False) W8 wr)) (fun _ v16 _ => qn - (intOf v16).toNat)
          case atStart => exact ⟨0, by omega, rfl, by simp [upsN], Fr.refl _ _⟩
          case round =>
            obtain ⟨x, hx, rfl, rfl, HFx⟩ := hrel
            have HFw : Hid (Fr (fun _ => False) w wr) := HW.out.trans HFx.out (fun _ _ x => x)
            obtain ⟨gk, b1, b2, b3, b4, b5, b6⟩ := HR.out.core.clos.at clCells_len HQQ.out
            have k2 := HFw.out.cell (b5 2 (by omega))
            have d6 : wr.cell? ⟨A.b, 6, none⟩ = some (.slice A.C.clos.a m.clos.length A.C.clos.c) := HFw.out.cell (HR.out.cell0 6)
            have dl := Nat.lt_of_lt_of_le HR.out.bl HFw.out.size
            have kl := Nat.lt_of_lt_of_le b4 HFw.out.size
            rw [b1, HNC.out] at d6
            simp only [clCells, List.getElem?_cons_succ, List.getElem?_cons_zero, Nat.add_zero] at k2
            clear b1 b2 b3 b4 b5 b6
            by_cases hxN : qn = x
            · subst hxN
              have l3 := ups_len HS.out HQQ.out (k := qn) (Nat.le_refl _)
              have hnx : T0 ++ upsN m k qn ++ [93] = S1 ++ (List.range (k + 1)).flatMap (showCl m) := by
                rw [range_flat, ← List.append_assoc, HS2.out, ← HT0.out]
                have hgd : m.clos.getD k cl0 = ⟨qp, qu, qn⟩ := by simp [HQQ.out]
                have hgc : showCl m k = [32, 67] ++ itoaN qp ++ [91] ++ upsN m k qn ++ [93] := by unfold showCl; rw [hgd]
                rw [hgc]
                simp [flat3]
              have HNX : Hid (T0 ++ upsN m k qn ++ [93] = S1 ++ (List.range (k + 1)).flatMap (showCl m)) := hnx
              clear hnx
              obtain ⟨U0, HU0⟩ : ∃ u0, Hid (T0 ++ upsN m k qn = u0) := ⟨_, rfl⟩
              have l4 : U0.length ≤ 400 + 74500 * 5 + 17000 * k + 65 * qn := by rw [← HU0.out, List.length_append]; omega
              rw [HU0.out] at HNX ⊢
              clear l3
              go_wp2_with fail
              refine ⟨⟨k + 1, by omega, by go_num, ?_, HFw⟩, by simp [intOf]; omega⟩
              rw [← HNX.out]
              exact sv_cat _ [93]
            · have x1 := (HB.out.fr HFx.out (fun x => x)).cell 0
              have x2 := (HB.out.fr HFx.out (fun x => x)).lt
              simp only [List.getElem?_toArray, List.getElem?_cons_succ, List.getElem?_cons_zero] at x1
              have CALL := getUp_any (HR.out.fresh HFw.out) HS.out HQQ.out (x := x) (by dsimp only; omega) (fa := ⟨B, 0, none⟩) x1 rfl x2
              have l3 := ups_len HS.out HQQ.out (k := x) (by dsimp only; omega)
              have HSH : Hid (Shw (getUp m k x)) := getUp_shw HS.out HQQ.out (by dsimp only; omega)
              have l5 := HSH.out.len
              have HNX : Hid (T0 ++ upsN m k (x + 1) = (T0 ++ upsN m k x) ++ showV (getUp m k x) ++ [44]) := by
                unfold upsN
                rw [range_flat]
                exact (show T0 ++ ((List.range x).flatMap (fun x => showV (getUp m k x) ++ [44]) ++ (showV (getUp m k x) ++ [44])) = T0 ++ (List.range x).flatMap (fun x => showV (getUp m k x) ++ [44]) ++ showV (getUp m k x) ++ [44] by simp)
              obtain ⟨U0, HU0⟩ : ∃ u0, Hid (T0 ++ upsN m k x = u0) := ⟨_, rfl⟩
              have l4 : U0.length ≤ 400 + 74500 * 5 + 17000 * k + 65 * x := by rw [← HU0.out, List.length_append]; omega
              rw [HU0.out] at HNX ⊢
              obtain ⟨v, HV⟩ : ∃ v, Hid (getUp m k x = v) := ⟨_, rfl⟩
              rw [HV.out] at CALL HSH HNX l5
              have hxl : (x : Int) < (qn : Int) := by omega
              clear l3 x1 x2
              go_wp2_with fail
              refine CALL.mono ?_
              rintro e' w8 ⟨rfl, F8⟩
              clear CALL
              obtain ⟨vt, vn, vs⟩ := v
              go_wp2_with fail
              refine (showVal_shw HSH.out).mono ?_
              rintro e' w9 ⟨rfl, F9⟩
              have HF9 : Hid (Fr (fun _ => False) W8 w9) := HFx.out.trans (F8.trans (((Fr.refl _ _).alloc _).trans F9 (fun _ _ x => x)) (fun _ _ x => x)) (fun _ _ x => x)
              clear F8 F9
              go_wp2_with fail
              refine ⟨⟨x + 1, by omega, by go_num, ?_, HF9⟩, by simp [intOf]; omega⟩
              rw [HNX.out, sv_app U0 (showV ⟨vt, vn, vs⟩)]
              exact sv_cat _ [44]
    · obtain ⟨t, hi⟩ : ∃ t, m.ths[k]? = some t := ⟨_, List.getElem?_eq_getElem (by rw [HNT.out]; omega)⟩
      obtain ⟨l, hx⟩ : ∃ l, A.X[k]? = some l := ⟨_, List.getElem?_eq_getElem (by rw [HR.out.lenX, HNT.out]; omega)⟩
      have S := HO.out.th (fun x => by rw [x] at hi; simp at hi)
      have T := S.vi.th k t hi
      have s0 := HFk.out.cell (HR.out.thCell hi hx (j := 0) (by omega))
      have s1 := HFk.out.cell (HR.out.thCell hi hx (j := 1) (by omega))
      have s3 := HFk.out.cell (HR.out.thCell hi hx (j := 3) (by omega))
      have tl := Nat.lt_of_lt_of_le HR.out.ths.here.has.lt HFk.out.size
      simp only [thCells, List.getElem?_cons_succ, List.getElem?_cons_zero, Sl.v, Nat.add_zero] at s0 s1 s3
      have hst := T.st.2
      have hfn : t.fn < 24 := by have := T.fn; have := S.vi.cn; omega
      have f8 := T.fr.len
      have HS : Hid (Slp K m) := S
      have HI : Hid (m.ths[k]? = some t) := hi
      have HX : Hid (A.X[k]? = some l) := hx
      obtain ⟨NF, HNF⟩ : ∃ n, Hid (t.frames.length = n) := ⟨_, rfl⟩
      rw [HNF.out] at s3 f8
      have p1 : ((m.ths.take k).flatMap (showTh m)).length ≤ 74500 * k := by
        have := flat_lenLe (showTh m) 74500 (m.ths.take k) (fun u hu => by
          obtain ⟨j, hj⟩ := List.getElem?_of_mem (List.mem_of_mem_take hu)
          exact showTh_len S hj)
        have h2 : (m.ths.take k).length ≤ k := by simp; omega
        have h3 := Nat.mul_le_mul_left 74500 h2
        omega
      obtain ⟨S1, HS1⟩ : ∃ s1, Hid (HD ++ (m.ths.take k).flatMap (showTh m) = s1) := ⟨_, rfl⟩
      have l1 : S1.length ≤ 300 + 74500 * k := by rw [← HS1.out, List.length_append]; omega
      rw [HS1.out]
      have hkN : (k : Int) < (NT : Int) := by omega
      clear S T hi hx p1 c9 bl
      go_wp2_with fail
      refine (itoa_any t.st (by omega)).mono ?_
      rintro e' w5 ⟨rfl, F5⟩
      have HF5 : Hid (Fr (fun _ => False) w w5) := HFk.out.trans F5 (fun _ _ x => x)
      have s1 := F5.cell s1
      have s3 := F5.cell s3
      have tl := Nat.lt_of_lt_of_le tl F5.size
      clear F5
      go_wp2_with fail
      refine (itoa_any t.fn (by omega)).mono ?_
      rintro e' w6 ⟨rfl, F6⟩
      have HF6 : Hid (Fr (fun _ => False) w w6) := HF5.out.trans F6 (fun _ _ x => x)
      have s3 := F6.cell s3
      have tl := Nat.lt_of_lt_of_le tl F6.size
      clear F6
      go_wp2_with fail
      have n4 := itoaN_len t.st
      have n5 := itoaN_len t.fn
      refine (joinN_any (B := w6.heap.size) (c := 5) (NP := 5) [S1, [32, 84], itoaN t.st, [44], itoaN t.fn] rfl (by omega) (by simp [flat3]; omega) (Has.newC _ _ _ rfl) (by simp [flat3]; omega)).mono ?_
      rintro e' w7 ⟨rfl, F7⟩
      have HF7 : Hid (Fr (fun _ => False) w w7) := (HF6.out.alloc _).trans F7 (fun _ _ x => x)
      have s3 := (((Fr.refl _ w6).alloc _).trans F7 (fun _ _ x => x)).cell s3
      have tl := Nat.lt_of_lt_of_le tl (((Fr.refl _ w6).alloc _).trans F7 (fun _ _ x => x)).size
      clear F7
      obtain ⟨T0, HT0⟩ : ∃ t0, Hid (flat3 [S1, [32, 84], itoaN t.st, [44], itoaN t.fn] = t0) := ⟨_, rfl⟩
      rw [HT0.out]
      have l0 : T0.length ≤ 400 + 74500 * k := by rw [← HT0.out]; simp [flat3]; omega
      go_wp2_with fail
      go_loopw [6, 79] (fun v6 v79 wr => ∃ (j : Nat), j ≤ NF ∧ v79 = .int .i64 j ∧ v6 = sv (T0 ++ (List.range j).flatMap (showF m t)) ∧ Hid (Fr (fun _ => False) w wr)) (fun _ v79 _ => NF - (intOf v79).toNat)
      case atStart => exact ⟨0, by omega, rfl, by simp, HF7⟩
      case round =>
        obtain ⟨j, hj, rfl, rfl, HFj⟩ := hrel
        by_cases hjN : NF = j
        · subst hjN
          have hnx : T0 ++ (List.range NF).flatMap (showF m t) = HD ++ (m.ths.take (k + 1)).flatMap (showTh m) := by
            rw [← HT0.out, ← HS1.out, ← HNF.out, List.take_add_one, HI.out, List.flatMap_append]
            simp [flat3, showTh]
          rw [hnx]
          obtain ⟨S2, HS2⟩ : ∃ s2, Hid (HD ++ (m.ths.take (k + 1)).flatMap (showTh m) = s2) := ⟨_, rfl⟩
          rw [HS2.out]
          clear hnx
          go_wp2_with fail
          refine ⟨⟨k + 1, by omega, by go_num, by rw [HS2.out], HFj⟩, by simp [intOf]; omega⟩
        · have hjf : j < t.frames.length := by rw [HNF.out]; omega
          have hfm : t.frames[j]? = some t.frames[j] := List.getElem?_eq_getElem hjf
          have CALL := showFrame_any (HR.out.fresh HFj.out) HS.out.vi HI.out HX.out hfm (HS.out.sl k t HI.out).2.zero
          have l2 := frs_len HS.out HI.out (k := j) (by rw [HNF.out]; omega)
          have l3 := showF_len HS.out.vi HI.out hfm (HS.out.sl k t HI.out).2.zero
          have hjl : (j : Int) < (NF : Int) := by omega
          clear hfm hjf
          have HL2 : Hid (List.length ((List.range j).flatMap (showF m t)) ≤ 9300 * j) := l2
          have l4 : (T0 ++ (List.range j).flatMap (showF m t)).length ≤ 400 + 74500 * k + 9300 * j := by rw [List.length_append]; omega
          obtain ⟨U0, HU0⟩ : ∃ u0, Hid (T0 ++ (List.range j).flatMap (showF m t) = u0) := ⟨_, rfl⟩
          rw [HU0.out] at l4
          rw [HU0.out]
          clear l2
          go_wp2_with fail
          refine CALL.mono ?_
          rintro e' w8 ⟨rfl, F8⟩
          have HF8 : Hid (Fr (fun _ => False) w w8) := HFj.out.trans F8 (fun _ _ x => x)
          clear F8 CALL
          go_wp2_with fail
          refine ⟨⟨j + 1, by omega, by go_num, ?_, HF8⟩, by simp [intOf]; omega⟩
          rw [range_flat, ← List.append_assoc, HU0.out]
          exact sv_cat _ _
end
end Go.Proofs.Qxb6500579aGreat
