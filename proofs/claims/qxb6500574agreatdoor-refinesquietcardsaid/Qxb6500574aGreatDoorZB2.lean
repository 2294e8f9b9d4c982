/-
  THE WALKS of tablem: Get, Make, Reset, Len.
-/
import Derived.Test.Qxb6500574aGreatDoorZB1
import Derived.Test.Qxb6500574aGreatDoorVApp
namespace Go.Proofs.Qxb6500574aGreatDoor
open Go Go.RowKit
set_option linter.unusedVariables false
set_option linter.unusedSimpArgs false
theorem Fr.three {S : Nat → Prop} {a w : World} (h : Fr S a w) {b : Nat} (hb : a.heap.size ≤ b) (x y z : Value) : Fr S a (((w.setCell ⟨b, 0, none⟩ x).setCell ⟨b, 1, none⟩ y).setCell ⟨b, 2, none⟩ z) :=
  ((h.setCell (p := ⟨b, 0, none⟩) (.inr hb) x).setCell (p := ⟨b, 1, none⟩) (.inr hb) y).setCell (p := ⟨b, 2, none⟩) (.inr hb) z
theorem Has.zero3 {w : World} {b : Nat} {T : TypeId} (h : Has w b #[.int .i64 0, .int .u64 0, sv []] T) : w.cell? ⟨b, 0, none⟩ = some (.int .i64 0) ∧ w.cell? ⟨b, 1, none⟩ = some (.int .u64 0) ∧ w.cell? ⟨b, 2, none⟩ = some (sv []) := ⟨by rw [h.cell]; rfl, by rw [h.cell]; rfl, by rw [h.cell]; rfl⟩
theorem rowTm : IsRow Tryz.prog 163 218 (.slice none 0 0) 1 24 := ⟨by kernel_rfl, by kernel_rfl, rfl, by decide⟩
section
variable {w : World} {o : Nat → Nat} {bt bn h : Nat} {s sl : Sl} {xs : List TmX} {l : PrL}
set_option maxRecDepth 100000
set_option maxHeartbeats 600000
theorem tget_m (r : TmRep w o bt bn s xs) (hx : xs[h]? = some (sl, l)) (k : Vl) (hk : wellV k = true) : Calls Tryz.prog 131 #[.pointer (some ⟨bt, 0, none⟩), .int .i64 h, k.val] w fun e w' => e = .returned (.tuple #[(getM l k).val, .int .i64 0]) ∧ Fr (fun _ => False) w w' := by
  have b1 := r.here.has.cell 1
  simp only [List.getElem?_toArray, List.getElem?_cons_zero, List.getElem?_cons_succ, Sl.v] at b1
  have hbt := r.here.has.lt
  obtain ⟨g, ga, gc, _, gl, gx, _⟩ := r.at hx
  rw [ga] at b1
  have hlt := (List.getElem?_eq_some_iff.1 hx).1
  have l12 := r.le
  have l32 : l.length ≤ 32 := r.ld _ (List.mem_of_getElem? hx)
  have HR : Hid (TmRep w o bt bn s xs) := r
  have HX : Hid (xs[h]? = some (sl, l)) := hx
  have HWF : Hid (∀ W, Calls Tryz.prog 108 #[k.val] W fun e w' => e = .returned (.bool true) ∧ Fr (fun _ => False) W w') := fun W => by have := well_any (w := W) k; rw [hk] at this; exact this
  have HFD : Hid (∀ W, Fr (fun _ => False) w W → Calls Tryz.prog 110 #[.pointer (some ⟨bt, 0, none⟩), .int .i64 h, k.val] W fun e w' => e = .returned (.int .i64 (findI (findM l k))) ∧ Fr (fun _ => False) W w') := fun W hW => tfind_m (HR.out.fresh hW) HX.out k
  have HG : Hid (getM l k = match findM l k with | none => nilV | some p => (l.getD p pr00).2) := rfl
  have HP : Hid (∀ p, findM l k = some p → ∃ e, l[p]? = some e) := fun p hp => by obtain ⟨x, x1, _⟩ := findM_some hp; exact ⟨x, x1⟩
  clear r hx ga hk
  obtain ⟨kt, kn, ks⟩ := k
  obtain ⟨R, HRR⟩ : ∃ R, Hid (findM l ⟨kt, kn, ks⟩ = R) := ⟨_, rfl⟩
  rw [HRR.out] at HFD HG HP
  obtain ⟨V, HV⟩ : ∃ V, Hid (getM l ⟨kt, kn, ks⟩ = V) := ⟨_, rfl⟩
  rw [HV.out] at HG ⊢
  obtain ⟨N, HNN⟩ : ∃ N : Nat, Hid (xs.length = N) := ⟨_, rfl⟩
  rw [HNN.out] at b1 gc hlt l12
  obtain ⟨M, HM⟩ : ∃ M : Nat, Hid (l.length = M) := ⟨_, rfl⟩
  rw [HM.out] at gx l32
  have hh1 : ((h : Int) < 0) = False := by simp
  have hh2 : ((N : Int) ≤ (h : Int)) = False := by simp; omega
  go_enter Tryz.func131, Tryz.ntmps131
  go_wp2_with fail
  refine (HWF.out _).mono ?_
  rintro e w1 ⟨rfl, F1⟩
  have F2 : Fr (fun _ => False) w w1 := (((Fr.refl _ _).alloc _).alloc _).trans F1 (fun _ _ x => x)
  have K1 : Has w1 w.heap.size #[.int .i64 kt, .int .u64 kn, sv ks] 68 := ((Has.new _ _ _).alloc _).fr F1 (fun x => x)
  have R1 : Has w1 (w.heap.size + 1) #[.int .i64 0, .int .u64 0, sv []] 68 := (Has.newC _ _ _ (by simp)).fr F1 (fun x => x)
  have HK1 : Hid (Has w1 w.heap.size #[.int .i64 kt, .int .u64 kn, sv ks] 68) := K1
  obtain ⟨y0, y1, y2⟩ := Has.cells3 (v := ⟨kt, kn, ks⟩) K1
  dsimp only at y0 y1 y2
  have lt1 := K1.lt
  clear F1 K1
  go_wp2_with fail
  refine (HFD.out _ F2).mono ?_
  rintro e w2 ⟨rfl, F3⟩
  have F4 : Fr (fun _ => False) w w2 := F2.trans F3 (fun _ _ x => x)
  have R2 := R1.fr F3 (fun x => x)
  clear F2 F3 R1 HK1 y0 y1 y2 lt1 HFD HWF
  obtain ⟨z0, z1, z2⟩ := R2.frz3
  obtain ⟨x0, x1, x2⟩ := R2.zero3
  have lt2 := R2.lt
  have b1' := F4.cell b1
  have gx' := F4.cell gx
  have hbt' : bt < w2.heap.size := Nat.lt_of_lt_of_le hbt F4.size
  have gl' : g < w2.heap.size := Nat.lt_of_lt_of_le gl F4.size
  have HF : Hid (Fr (fun _ => False) w w2) := F4
  have HR2 : Hid (Has w2 (w.heap.size + 1) #[.int .i64 0, .int .u64 0, sv []] 68) := R2
  have HRW : Hid (TmRep w2 o bt bn s xs) := HR.out.fresh F4
  clear F4 b1 gx hbt gl HR R2
  obtain ⟨B, HB⟩ : ∃ B, Hid (w.heap.size + 1 = B) := ⟨_, rfl⟩
  have HB1 : Hid (w.heap.size ≤ B) := by show _ ≤ _; rw [← HB.out]; omega
  rw [HB.out] at z0 z1 z2 x0 x1 x2 lt2 HR2
  rcases R with _ | p
  · have HV2 : Hid (V = nilV) := HG.out
    clear HG HP
    rw [HB.out]
    have e0 : findI none = -1 := rfl
    go_wp2
    refine bodyPost_ret (res_cell_tmp isVal rfl rfl (HR2.out.put3 _ _ _) rfl) rfl ?_
    exact ⟨by rw [HV2.out]; rfl, HF.out.three HB1.out _ _ _⟩
  · obtain ⟨⟨ek, ⟨vt, vn, vs⟩⟩, hE⟩ := HP.out p rfl
    have HV2 : Hid (V = ⟨vt, vn, vs⟩) := by
      show _ = _
      rw [HG.out]
      dsimp only
      rw [List.getD_eq_getElem?_getD, hE]
      rfl
    have hpl : p < M := by rw [← HM.out]; exact (List.getElem?_eq_some_iff.1 hE).1
    obtain ⟨q, qa, qc, _, ql, _, _, _, _, p0, p1, p2⟩ := HRW.out.pair HX.out hE
    rw [qa] at gx'
    rw [HM.out] at qc
    dsimp only at p0 p1 p2
    clear HG HP hE qa
    rw [HB.out]
    have e0 : findI (some p) = (p : Int) := rfl
    go_wp2
    refine bodyPost_ret (res_cell_tmp isVal rfl rfl (HR2.out.put3 _ _ _) rfl) rfl ?_
    exact ⟨by rw [HV2.out]; rfl, HF.out.three HB1.out _ _ _⟩
theorem treset_m (r : TmRep w o bt bn s xs) : Calls Tryz.prog 72 #[.pointer (some ⟨bt, 0, none⟩)] w fun e w' => e = .returned (.tuple #[]) ∧ TmRep w' o bt bn sl0 [] ∧ Stp (fun l => l = 2) w o w' o := by
  have b1 := r.here.has.cell 1
  simp only [List.getElem?_toArray, List.getElem?_cons_zero, List.getElem?_cons_succ, Sl.v] at b1
  have hbt := r.here.has.lt
  have fz := r.here.has.frozen 1
  obtain ⟨q1, q2⟩ := r.here.put 1 (.slice none 0 0) (cs' := #[.pointer (some ⟨bn, 0, none⟩), sl0.v 0]) rfl
  have FIN : Hid (TmRep (w.setCell ⟨bt, 1, none⟩ (.slice none 0 0)) o bt bn sl0 [] ∧ Stp (fun l => l = 2) w o (w.setCell ⟨bt, 1, none⟩ (.slice none 0 0)) o) := ⟨⟨q1, Row.nil _ _ _ _ _, fun h x hx => by simp at hx, by simp, fun x hx => by simp at hx⟩, q2⟩
  clear r q1 q2
  go_enter Tryz.func72, Tryz.ntmps72
  go_wp2
  go_end0
  exact ⟨rfl, FIN.out⟩
theorem tmake_full (r : TmRep w o bt bn s xs) (hl : 12 ≤ xs.length) : Calls Tryz.prog 73 #[.pointer (some ⟨bt, 0, none⟩)] w fun e w' => e = .returned (.tuple #[.int .i64 (-1), .int .i64 8]) ∧ w' = w := by
  have b1 := r.here.has.cell 1
  simp only [List.getElem?_toArray, List.getElem?_cons_zero, List.getElem?_cons_succ, Sl.v] at b1
  have hbt := r.here.has.lt
  have e12 : xs.length = 12 := by have := r.le; omega
  rw [e12] at b1
  clear r hl e12
  go_enter Tryz.func73, Tryz.ntmps73
  go_wp2
  go_ret2
  exact ⟨rfl, rfl⟩
theorem tmake_m (r : TmRep w o bt bn s xs) (hl : xs.length < 12) : Calls Tryz.prog 73 #[.pointer (some ⟨bt, 0, none⟩)] w fun e w' => e = .returned (.tuple #[.int .i64 xs.length, .int .i64 0]) ∧ ∃ o' s', TmRep w' o' bt bn s' (xs ++ [(sl0, [])]) ∧ Stp isTm w o w' o' := by
  have b1 := r.here.has.cell 1
  simp only [List.getElem?_toArray, List.getElem?_cons_zero, List.getElem?_cons_succ, Sl.v] at b1
  have hbt := r.here.has.lt
  have HR : Hid (TmRep w o bt bn s xs) := r
  have HO : Hid (w.ownsRow 0 218 1 (s.v xs.length) xs.length (xs.flatMap trV)) := r.row.own
  clear r
  obtain ⟨N, HN⟩ : ∃ N : Nat, Hid (xs.length = N) := ⟨_, rfl⟩
  rw [HN.out] at b1 hl ⊢
  have h12 : ((12 : Int) ≤ (N : Int)) = False := by simp; omega
  go_enter Tryz.func73, Tryz.ntmps73
  go_wp2_with (at_builtin; go_must (refine wpList_appN rowTm _ rfl (.tmp 14) (.tmp 15) rfl (s.v xs.length) xs.length (xs.flatMap trV) (by rw [HN.out]; rfl) (owns_alloc HO.out _) w.heap.size 1 1 [.slice none 0 0] rfl (Has.new _ _ _) rfl (by omega) (by intro u hu; simp at hu; subst hu; rfl) ?bd ?go))
  case bd => rw [HN.out]; omega
  case go =>
    intro g cap w2 q1 q2 q3 q4
    have hq3 : (s.v xs.length).ownBlock = some g ∨ w.heap.size ≤ g := q3.imp_right (fun h => by rw [h]; simp)
    obtain ⟨r1, r2⟩ := HR.out.row.app ((Fr.refl _ _).alloc _) q1 q2 hq3 q4
    have hb2 := HR.out.here.st r2 (by omega)
    obtain ⟨p1, p2⟩ := hb2.put 1 (.slice (some ⟨g, 0, none⟩) (xs.length + 1) cap) (cs' := #[.pointer (some ⟨bn, 0, none⟩), (⟨some ⟨g, 0, none⟩, cap⟩ : Sl).v (xs.length + 1)]) rfl
    have S2 : Stp isTm w o _ _ := (r2.weaken (fun l h => .inr (.inl h))).trans (p2.weaken (fun l h => .inl h))
    have FIN : Hid (∃ o' s', TmRep (w2.setCell ⟨bt, 1, none⟩ (.slice (some ⟨g, 0, none⟩) (N + 1) cap)) o' bt bn s' (xs ++ [(sl0, [])]) ∧ Stp isTm w o (w2.setCell ⟨bt, 1, none⟩ (.slice (some ⟨g, 0, none⟩) (N + 1) cap)) o') := by
      rw [← HN.out]
      refine ⟨_, ⟨some ⟨g, 0, none⟩, cap⟩, ⟨?_, ?_, fun h x hx => ?_, ?_, fun x hx => ?_⟩, S2⟩
      · rw [List.length_append]; exact p1
      · have := r1.st p2 (by omega)
        rw [List.length_append, List.flatMap_append]
        exact this
      · by_cases hh : h < xs.length
        · rw [List.getElem?_append_left hh] at hx
          exact ((HR.out.one h x hx).st r2 (by omega)).st p2 (by omega)
        · rw [List.getElem?_append_right (by omega)] at hx
          obtain ⟨i, hi⟩ : ∃ i, h - xs.length = i := ⟨_, rfl⟩
          rw [hi] at hx
          cases i with
          | zero =>
            have : x = (sl0, []) := by simpa using hx.symm
            rw [this]
            exact Row.nil _ _ _ _ _
          | succ i => simp at hx
      · rw [List.length_append, HN.out]; simp; omega
      · rcases List.mem_append.1 hx with hx | hx
        · exact HR.out.ld x hx
        · have : x = (sl0, []) := by simpa using hx
          rw [this]; simp
    have d4 : w2.cell? ⟨bt, 1, none⟩ = some (.slice s.a N s.c) := by
      rw [hb2.has.cell]
      simp [HN.out]
    have d3 := hb2.has.frozen 1
    have k3 := hb2.has.lt
    clear q1 q2 q3 q4 hq3 r1 r2 hb2 p1 p2 S2
    rw [HN.out]
    have e1 : (N : Int) + 1 - 1 = N := by omega
    go_wp2
    go_ret2
    exact ⟨rfl, FIN.out⟩
theorem tlen_m (r : TmRep w o bt bn s xs) (hx : xs[h]? = some (sl, l)) : Calls Tryz.prog 206 #[.pointer (some ⟨bt, 0, none⟩), .int .i64 h] w fun e w' => e = .returned (.tuple #[.int .i64 (lenM l), .int .i64 0]) ∧ Fr (fun _ => False) w w' := by
  have b0 := r.here.has.cell 0
  have b1 := r.here.has.cell 1
  simp only [List.getElem?_toArray, List.getElem?_cons_zero, List.getElem?_cons_succ, Sl.v] at b0 b1
  have hbt := r.here.has.lt
  obtain ⟨g, ga, gc, _, gl, gx, _⟩ := r.at hx
  rw [ga] at b1
  have hlt := (List.getElem?_eq_some_iff.1 hx).1
  have l12 := r.le
  have l32 : l.length ≤ 32 := r.ld _ (List.mem_of_getElem? hx)
  have HR : Hid (TmRep w o bt bn s xs) := r
  have HX : Hid (xs[h]? = some (sl, l)) := hx
  have HP : Hid (∀ k p, findM l k = some p → ∃ e, l[p]? = some e) := fun k p hp => by obtain ⟨x, x1, _⟩ := findM_some hp; exact ⟨x, x1⟩
  have HFD : Hid (∀ W (k : Vl), Fr (fun _ => False) w W → Calls Tryz.prog 110 #[.pointer (some ⟨bt, 0, none⟩), .int .i64 h, k.val] W fun e w' => e = .returned (.int .i64 (findI (findM l k))) ∧ Fr (fun _ => False) W w') := fun W k hW => tfind_m (HR.out.fresh hW) HX.out k
  have HFI : Hid (∀ (W : World) (n : Nat), n ≤ 32 → Calls Tryz.prog 127 #[.pointer (some ⟨bn, 0, none⟩), .int .i64 ((n : Int) + 1)] W fun e w' => e = .returned (.int .u64 (keyI n)) ∧ w' = W) := fun W n hn => by
    have := fromInt_m (w := W) (bn := bn) (i := (n : Int) + 1) (by omega) (by omega)
    rw [← fromInt_okM (by omega) (by omega)] at this
    exact this
  clear r hx ga
  obtain ⟨N, HNN⟩ : ∃ N : Nat, Hid (xs.length = N) := ⟨_, rfl⟩
  rw [HNN.out] at b1 gc hlt l12
  obtain ⟨M, HM⟩ : ∃ M : Nat, Hid (l.length = M) := ⟨_, rfl⟩
  rw [HM.out] at gx l32
  obtain ⟨R, HRR⟩ : ∃ R, Hid (lenM l = R) := ⟨_, rfl⟩
  rw [HRR.out]
  have hh1 : ((h : Int) < 0) = False := by simp
  have hh2 : ((N : Int) ≤ (h : Int)) = False := by simp; omega
  go_enter Tryz.func206, Tryz.ntmps206
  go_wp2_with fail
  go_loopw [6] (fun g6 wr => ∃ n : Nat, n ≤ 33 ∧ g6 = .int .i64 n ∧ Hid (R = lenG l keyI (33 - n) n) ∧ Hid (Fr (fun _ => False) w wr)) (fun g6 _ => 33 - (intOf g6).toNat)
  case atStart => exact ⟨0, by omega, rfl, HRR.out.symm, Fr.refl _ _⟩
  case round =>
    obtain ⟨n, hn, rfl, HJ, HF⟩ := hrel
    by_cases hn33 : n = 33
    · subst hn33
      have HJ2 : Hid (R = 33) := HJ.out
      clear HJ
      go_wp2_with fail
      go_ret2
      exact ⟨by rw [HJ2.out]; rfl, HF.out⟩
    · have hn32 : n ≤ 32 := by omega
      have HJ1 : Hid (R = match findM l (numV (keyI n)) with | none => n | some p => if (l.getD p pr00).2.t = 0 then n else lenG l keyI (33 - (n + 1)) (n + 1)) := by
        show _ = _
        rw [HJ.out, show 33 - n = (33 - (n + 1)) + 1 by omega]
        rfl
      have b0r := HF.out.cell b0
      have b1r := HF.out.cell b1
      have gxr := HF.out.cell gx
      have hbtr : bt < wr.heap.size := Nat.lt_of_lt_of_le hbt HF.out.size
      have glr : g < wr.heap.size := Nat.lt_of_lt_of_le gl HF.out.size
      have C1 := HFI.out wr n hn32
      have C2 := HFD.out wr (numV (keyI n)) HF.out
      generalize keyI n = X at *
      obtain ⟨F0, HF0⟩ : ∃ F0, Hid (findM l (numV X) = F0) := ⟨_, rfl⟩
      rw [HF0.out] at C2 HJ1
      have HC1 := hid C1
      have HC2 := hid C2
      clear C1 C2 HJ b0 b1 gx hbt gl
      go_wp2_with fail
      refine HC1.out.mono ?_
      rintro e' w1 ⟨rfl, hw1⟩
      rw [hw1]
      go_wp2_with fail
      refine HC2.out.mono ?_
      rintro e' w2 ⟨rfl, F2⟩
      have HF2 : Hid (Fr (fun _ => False) w w2) := HF.out.trans F2 (fun _ _ x => x)
      have b1s := F2.cell b1r
      have gxs := F2.cell gxr
      have hbts : bt < w2.heap.size := Nat.lt_of_lt_of_le hbtr F2.size
      have gls : g < w2.heap.size := Nat.lt_of_lt_of_le glr F2.size
      have HR2 : Hid (TmRep w2 o bt bn s xs) := HR.out.fresh HF2.out
      clear F2 b0r b1r gxr hbtr glr HC1 HC2 hw1
      rcases F0 with _ | p
      · have e0 : findI none = -1 := rfl
        have HJ2 : Hid (R = n) := HJ1.out
        clear HJ1
        go_wp2_with fail
        go_ret2
        exact ⟨by rw [HJ2.out]; rfl, HF2.out⟩
      · obtain ⟨⟨ek, ⟨vt, vn, vs⟩⟩, hE⟩ := HP.out _ p HF0.out
        have hpl : p < M := by rw [← HM.out]; exact (List.getElem?_eq_some_iff.1 hE).1
        obtain ⟨q, qa, qc, _, ql, _, _, _, _, p0, p1, p2⟩ := HR2.out.pair HX.out hE
        rw [qa] at gxs
        rw [HM.out] at qc
        dsimp only at p0 p1 p2
        have hgd : l.getD p pr00 = (ek, ⟨vt, vn, vs⟩) := by rw [List.getD_eq_getElem?_getD, hE]; rfl
        dsimp only at HJ1
        rw [hgd] at HJ1
        dsimp only at HJ1
        have e0 : findI (some p) = (p : Int) := rfl
        clear hE hgd qa HF0 p1 p2
        by_cases hz : vt = 0
        · have HJ2 : Hid (R = n) := by show _ = _; rw [HJ1.out, if_pos hz]
          subst hz
          clear HJ1
          go_wp2_with fail
          go_ret2
          exact ⟨by rw [HJ2.out]; rfl, HF2.out⟩
        · have HJ2 : Hid (R = lenG l keyI (33 - (n + 1)) (n + 1)) := by show _ = _; rw [HJ1.out, if_neg hz]
          have bz : (vt == 0) = false := by rw [beq_eq_false_iff_ne]; exact hz
          clear HJ1 hz
          go_wp2_with fail
          refine ⟨⟨n + 1, by omega, rfl, HJ2, HF2⟩, by simp [intOf]; omega⟩
end
end Go.Proofs.Qxb6500574aGreatDoor
