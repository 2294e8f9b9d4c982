/-
  THE WALK of tablem: Next.
-/
import Derived.Test.Qxb6500574aGreatDoorZB4
namespace Go.Proofs.Qxb6500574aGreatDoor
open Go Go.RowKit
set_option linter.unusedVariables false
set_option linter.unusedSimpArgs false
def nextR (r : Option (Vl × Vl)) : Value := match r with
  | none => .tuple #[nilV.val, nilV.val, .int .i64 7]
  | some e => .tuple #[e.1.val, e.2.val, .int .i64 0]
theorem res_cell2_tmp {fn : Func} {p q r : Tmp} {T T2 n n2 : Nat} {tmps : Array Value} {w : World} {b b2 : Nat} {cs cs2 : Array Value} (hT : IsStr T n) (hT2 : IsStr T2 n2) (h : fn.results = #[.cell p T, .cell q T2, .tmp r]) (hp : tmps.getD p undef = .pointer (some ⟨b, 0, none⟩)) (hb : Has w b cs T) (hn : cs.size = n) (hq : tmps.getD q undef = .pointer (some ⟨b2, 0, none⟩)) (hb2 : Has w b2 cs2 T2) (hn2 : cs2.size = n2) : (results fn tmps).run Tryz.prog w = .ok (.tuple #[.agg cs, .agg cs2, tmps.getD r undef]) w := by
  simp only [results, h]
  have hp' : tmps[p]?.getD undef = .pointer (some ⟨b, 0, none⟩) := by simpa using hp
  have hq' : tmps[q]?.getD undef = .pointer (some ⟨b2, 0, none⟩) := by simpa using hq
  simp [Sem.run_bind, Result.andThen, hp', hq', asAddr, hT.load hb hn, hT2.load hb2 hn2]
theorem nxtM_at {l : PrL} {j : Nat} {e : Vl × Vl} (h : l[j]? = some e) : nxtM l j = if e.2.t ≠ 0 then e else nxtM l (j + 1) := by
  obtain ⟨h1, h2⟩ := List.getElem?_eq_some_iff.1 h
  unfold nxtM
  rw [List.drop_eq_getElem_cons h1, h2, List.find?_cons]
  by_cases hz : e.2.t = 0
  · simp [hz]
  · simp [hz]
theorem nxtM_end {l : PrL} {j : Nat} (h : l.length ≤ j) : nxtM l j = pr00 := by
  unfold nxtM
  rw [List.drop_eq_nil_of_le h]
  rfl
section
variable {w : World} {o : Nat → Nat} {bt bn h : Nat} {s sl : Sl} {xs : List TmX} {l : PrL}
set_option maxRecDepth 100000
set_option maxHeartbeats 2000000
theorem tnext_m (r : TmRep w o bt bn s xs) (hx : xs[h]? = some (sl, l)) (k : Vl) (hk : wellV k = true) : Calls Tryz.prog 125 #[.pointer (some ⟨bt, 0, none⟩), .int .i64 h, k.val] w fun e w' => e = .returned (nextR (nextM l k)) ∧ Fr (fun _ => False) w w' := by
  obtain ⟨O, HO⟩ : ∃ O, Hid (nextM l k = O) := ⟨_, rfl⟩
  rw [HO.out]
  have b1 := r.here.has.cell 1
  simp only [List.getElem?_toArray, List.getElem?_cons_zero, List.getElem?_cons_succ, Sl.v] at b1
  have hbt := r.here.has.lt
  obtain ⟨g, ga, gc, _, gl, gx, _⟩ := r.at hx
  rw [ga] at b1
  have hlt := (List.getElem?_eq_some_iff.1 hx).1
  have l12 := r.le
  have l32 : l.length ≤ 32 := r.ld _ (List.mem_of_getElem? hx)
  have HR : Hid (TmRep w o bt bn s xs) := r
  have HX : Hid (xs[h]? = some (sl, l)) := hx
  have HWK : Hid (∀ W, Calls Tryz.prog 108 #[k.val] W fun e w' => e = .returned (.bool true) ∧ Fr (fun _ => False) W w') := fun W => by have := well_any (w := W) k; rw [hk] at this; exact this
  have HFD : Hid (∀ W, Fr (fun _ => False) w W → Calls Tryz.prog 110 #[.pointer (some ⟨bt, 0, none⟩), .int .i64 h, k.val] W fun e w' => e = .returned (.int .i64 (findI (findM l k))) ∧ Fr (fun _ => False) W w') := fun W hW => tfind_m (HR.out.fresh hW) HX.out k
  have HP : Hid (∀ p, findM l k = some p → p < l.length) := fun p hp => by obtain ⟨x, x1, _⟩ := findM_some hp; exact (List.getElem?_eq_some_iff.1 x1).1
  unfold nextM at HO
  rw [hk] at HO
  simp only [Bool.not_true, Bool.false_eq_true, if_false] at HO
  have HB1 := hid b1
  have HGX : Hid (w.cell? ⟨g, h, none⟩ = some (.slice sl.a l.length sl.c)) := gx
  clear r hx ga hk
  obtain ⟨kt, kn, ks⟩ := k
  dsimp only at HO
  obtain ⟨N, HNL⟩ : ∃ N : Nat, Hid (xs.length = N) := ⟨_, rfl⟩
  rw [HNL.out] at b1 gc hlt l12 HB1
  obtain ⟨M, HM⟩ : ∃ M : Nat, Hid (l.length = M) := ⟨_, rfl⟩
  rw [HM.out] at gx l32 HP HGX
  have hh1 : ((h : Int) < 0) = False := by simp
  have hh2 : ((N : Int) ≤ (h : Int)) = False := by simp; omega
  have b13 := fun x y z => ((((Fr.refl (fun _ => False) w).alloc x).alloc y).alloc z).cell b1
  go_enter Tryz.func125, Tryz.ntmps125
  go_wp2_with fail
  refine (HWK.out _).mono ?_
  rintro e w1 ⟨rfl, F1⟩
  have F2 : Fr (fun _ => False) w w1 := ((((Fr.refl _ _).alloc _).alloc _).alloc _).trans F1 (fun _ _ x => x)
  have K1 : Has w1 w.heap.size #[.int .i64 kt, .int .u64 kn, sv ks] 68 := (((Has.new _ _ _).alloc _).alloc _).fr F1 (fun x => x)
  have V1 : Has w1 (w.heap.size + 1) #[.int .i64 0, .int .u64 0, sv []] 68 := ((Has.newC _ _ _ (by simp)).alloc _).fr F1 (fun x => x)
  have U1 : Has w1 (w.heap.size + 1 + 1) #[.int .i64 0, .int .u64 0, sv []] 68 := (Has.newC _ _ _ (by simp)).fr F1 (fun x => x)
  obtain ⟨A0, HA0⟩ : ∃ A0, Hid (w.heap.size = A0) := ⟨_, rfl⟩
  obtain ⟨A1, HA1⟩ : ∃ A1, Hid (w.heap.size + 1 = A1) := ⟨_, rfl⟩
  obtain ⟨A2, HA2⟩ : ∃ A2, Hid (w.heap.size + 1 + 1 = A2) := ⟨_, rfl⟩
  rw [HA0.out] at K1
  rw [HA1.out] at V1
  rw [HA2.out] at U1
  rw [HA2.out, HA1.out, HA0.out]
  have HB0 : Hid (w.heap.size ≤ A0 ∧ w.heap.size ≤ A1 ∧ w.heap.size ≤ A2 ∧ A1 ≠ A2) := by have := HA0.out; have := HA1.out; have := HA2.out; exact ⟨by omega, by omega, by omega, by omega⟩
  obtain ⟨x0, x1, x2⟩ := Has.cells3 (v := ⟨kt, kn, ks⟩) K1
  dsimp only at x0 x1 x2
  have lt1 := K1.lt
  have HK := hid K1
  have HV := hid V1
  have HU := hid U1
  have HF := hid F2
  clear F1 F2 K1 V1 U1 b13 HWK
  -- the end, with two values
  have hne1 : A1 ≠ A2 := HB0.out.2.2.2
  have hne2 : A2 ≠ A1 := hne1.symm
  have FIN : Hid (∀ (W : World) (a0 a1 a2 b0 b1 b2 : Value), Has W A1 #[.int .i64 0, .int .u64 0, sv []] 68 → Has W A2 #[.int .i64 0, .int .u64 0, sv []] 68 → Fr (fun _ => False) w W →
      Has ((((((W.setCell ⟨A1, 0, none⟩ a0).setCell ⟨A1, 1, none⟩ a1).setCell ⟨A1, 2, none⟩ a2).setCell ⟨A2, 0, none⟩ b0).setCell ⟨A2, 1, none⟩ b1).setCell ⟨A2, 2, none⟩ b2) A1 #[a0, a1, a2] 68 ∧ Has ((((((W.setCell ⟨A1, 0, none⟩ a0).setCell ⟨A1, 1, none⟩ a1).setCell ⟨A1, 2, none⟩ a2).setCell ⟨A2, 0, none⟩ b0).setCell ⟨A2, 1, none⟩ b1).setCell ⟨A2, 2, none⟩ b2) A2 #[b0, b1, b2] 68 ∧ Fr (fun _ => False) w ((((((W.setCell ⟨A1, 0, none⟩ a0).setCell ⟨A1, 1, none⟩ a1).setCell ⟨A1, 2, none⟩ a2).setCell ⟨A2, 0, none⟩ b0).setCell ⟨A2, 1, none⟩ b1).setCell ⟨A2, 2, none⟩ b2)) := fun W a0 a1 a2 b0 b1 b2 h1 h2 h3 => by
    obtain ⟨q0, q1, q2, q3⟩ := HB0.out
    refine ⟨?_, ?_, (h3.three q1 _ _ _).three q2 _ _ _⟩
    · exact (((h1.put3 _ _ _).other (p := ⟨A2, 0, none⟩) q3 _).other (p := ⟨A2, 1, none⟩) q3 _).other (p := ⟨A2, 2, none⟩) q3 _
    · exact (((h2.other (p := ⟨A1, 0, none⟩) q3.symm _).other (p := ⟨A1, 1, none⟩) q3.symm _).other (p := ⟨A1, 2, none⟩) q3.symm _).put3 _ _ _
  have FN1 : Hid (∀ (W : World) (a0 a1 a2 : Value), Fr (fun _ => False) w W → Fr (fun _ => False) w (((W.setCell ⟨A1, 0, none⟩ a0).setCell ⟨A1, 1, none⟩ a1).setCell ⟨A1, 2, none⟩ a2)) := fun W a0 a1 a2 h => h.three HB0.out.2.1 _ _ _
  by_cases hk0 : kt = 0
  · have HO2 : Hid (O = some (nxtM l 0)) := by show _ = _; rw [← HO.out, if_pos hk0]
    subst hk0
    clear HO HP HFD
    go_wp2_with fail
    go_loopw [10] (fun g10 wr => ∃ j : Nat, j ≤ M ∧ g10 = .int .i64 j ∧ Hid (O = some (nxtM l j)) ∧ wr = w1) (fun g10 _ => M - (intOf g10).toNat)
    case atStart => exact ⟨0, by omega, rfl, HO2, rfl⟩
    case round =>
      obtain ⟨j, hj, rfl, HJ, rfl⟩ := hrel
      clear HO2
      have b1r := HF.out.cell b1
      have gxr := HF.out.cell gx
      have hbtr : bt < wr.heap.size := Nat.lt_of_lt_of_le hbt HF.out.size
      have glr : g < wr.heap.size := Nat.lt_of_lt_of_le gl HF.out.size
      have HR3 := hid (HR.out.fresh HF.out)
      obtain ⟨x0, x1, x2⟩ := HV.out.zero3
      obtain ⟨y0, y1, y2⟩ := HU.out.zero3
      obtain ⟨x3, x4, x5⟩ := HV.out.frz3
      obtain ⟨y3, y4, y5⟩ := HU.out.frz3
      have l1 := HV.out.lt
      have l2 := HU.out.lt
      clear b1 gx hbt gl
      by_cases hjm : j < M
      · obtain ⟨⟨⟨at_, an, az⟩, ⟨vt, vn, vs⟩⟩, hE⟩ : ∃ e, l[j]? = some e := ⟨l[j]'(by rw [HM.out]; exact hjm), by simp⟩
        obtain ⟨q, qa, qc, _, ql, _, p0, p1, p2, p3, p4, p5⟩ := HR3.out.pair HX.out hE
        rw [qa] at gxr
        rw [HM.out] at qc
        dsimp only at p0 p1 p2 p3 p4 p5
        have hnx := nxtM_at hE
        dsimp only at hnx
        rw [hnx] at HJ
        have HE := hid hE
        have HQA := hid qa
        clear hnx hE qa
        by_cases hz : vt = 0
        · rw [if_neg (fun z => z hz)] at HJ
          subst hz
          go_wp2_with fail
          refine ⟨⟨j + 1, by omega, rfl, HJ, trivial⟩, by simp [intOf]; omega⟩
        · rw [if_pos hz] at HJ
          have bz : (vt != 0) = true := by rw [bne_iff_ne]; exact hz
          clear hz
          have HNE := WS.non w
          obtain ⟨q', qa', qc', _, ql', _, e0', e1', e2', e3', e4', e5'⟩ := HR.out.pair HX.out HE.out
          dsimp only at e0' e1' e2' e3' e4' e5'
          rw [HQA.out] at qa'
          cases qa'
          have gxw := HGX.out
          rw [HQA.out] at gxw
          have c0 := fun z : WS w => z.f.cell HB1.out
          have c1 := fun z : WS w => z.f.cell gxw
          have c2 := fun z : WS w => z.f.cell e0'
          have c3 := fun z : WS w => z.f.cell e1'
          have c4 := fun z : WS w => z.f.cell e2'
          have c5 := fun z : WS w => z.f.cell e3'
          have c6 := fun z : WS w => z.f.cell e4'
          have c7 := fun z : WS w => z.f.cell e5'
          clear e0' e1' e2' e3' e4' e5' gxw
          go_wp2_with fail
          refine wp_region_plan [0, 1, 2, 3, 4, 5, 6, 7, 8, 9, 10, 11, 12, 13, 14, 15, 16, 17, 18, 19, 20, 21] .done 22 (fun x => ∃ z : WS w, x = z.y) (by kernel_rfl) (by kernel_rfl) (fun _ _ _ _ _ h => h) ⟨⟨_, HF.out.drew⟩, rfl⟩ [_, _, _, _, _, _, _, _, _, _, _, _, _, _, _, _, _, _, _, _, _, _] rfl _ rfl ?_
          simp only [List.getElem_toArray, List.getElem_cons_succ, List.getElem_cons_zero, List.drop_succ_cons, List.drop_zero, List.length_cons, List.length_nil, Nat.zero_add]
          repeat go_big_quiet_step (fail)
          refine wpQuiet_nil ?_
          clear c0 c1 c2 c3 c4 c5 c6 c7 HNE
          refine ⟨fun a' a Wz => a = a' ∧ Wz = wr.drew, ?_, fun G HG' => ?_⟩
          · rintro a9 Wz hSW ⟨rfl, hWz⟩
            rw [hWz]
            clear hSW hWz Wz
            unfold wpChain
            go_wp2_with fail
            refine ⟨⟨⟨_, (FN1.out wr (.int .i64 at_) (.int .u64 an) (sv az) HF.out).drew⟩, rfl⟩, ?_⟩
            unfold wpChain
            go_wp2_with fail
            obtain ⟨r1, r2, r3⟩ := FIN.out wr (.int .i64 at_) (.int .u64 an) (sv az) (.int .i64 vt) (.int .u64 vn) (sv vs) HV.out HU.out HF.out
            refine ⟨⟨⟨_, r3.drew⟩, rfl⟩, ?_⟩
            unfold wpChain
            go_wp2_with fail
            refine ⟨⟨⟨_, r3.drew⟩, rfl⟩, ?_⟩
            rw [wpChain_zero]
            go_wp2_with fail
            refine bodyPost_ret (res_cell2_tmp isVal isVal rfl rfl r1.drew rfl rfl r2.drew rfl) rfl ?_
            exact ⟨by rw [HJ.out]; rfl, r3.drew⟩
          · show G _ _
            rw [HG'.out]
            exact ⟨rfl, rfl⟩
      · have hjM : j = M := by omega
        subst hjM
        rw [nxtM_end (by rw [HM.out]; exact Nat.le_refl _)] at HJ
        go_wp2_with fail
        obtain ⟨r1, r2, r3⟩ := FIN.out _ (.int .i64 0) (.int .u64 0) (sv []) (.int .i64 0) (.int .u64 0) (sv []) HV.out HU.out HF.out
        refine bodyPost_ret (res_cell2_tmp isVal isVal rfl rfl r1 rfl rfl r2 rfl) rfl ?_
        exact ⟨by rw [HJ.out]; rfl, r3⟩
  · rw [if_neg hk0] at HO
    have bk0 : (kt != 0) = true := by rw [bne_iff_ne]; exact hk0
    have C4 := hid (HFD.out w1 HF.out)
    clear hk0 HFD
    go_wp2_with fail
    refine C4.out.mono ?_
    rintro e w2 ⟨rfl, F7⟩
    have HF3 := hid (HF.out.trans F7 (fun _ _ x => x))
    have HV3 := hid (HV.out.fr F7 (fun x => x))
    have HU3 := hid (HU.out.fr F7 (fun x => x))
    clear C4 HV HU HF x0 x1 x2 lt1 F7 HK
    rcases hfm : findM l ⟨kt, kn, ks⟩ with _ | p
    · rw [hfm] at HO
      have HO2 : Hid (O = none) := HO.out.symm
      have e0 : findI none = -1 := rfl
      obtain ⟨x0, x1, x2⟩ := HV3.out.zero3
      obtain ⟨y0, y1, y2⟩ := HU3.out.zero3
      obtain ⟨x3, x4, x5⟩ := HV3.out.frz3
      obtain ⟨y3, y4, y5⟩ := HU3.out.frz3
      have l1 := HV3.out.lt
      have l2 := HU3.out.lt
      clear hfm HP HO
      go_wp2_with fail
      obtain ⟨r1, r2, r3⟩ := FIN.out _ (.int .i64 0) (.int .u64 0) (sv []) (.int .i64 0) (.int .u64 0) (sv []) HV3.out HU3.out HF3.out
      refine bodyPost_ret (res_cell2_tmp isVal isVal rfl rfl r1 rfl rfl r2 rfl) rfl ?_
      exact ⟨by rw [HO2.out]; rfl, r3⟩
    · rw [hfm] at HO
      have HO2 : Hid (O = some (nxtM l (p + 1))) := HO.out.symm
      have hpl := HP.out p hfm
      have e0 : findI (some p) = (p : Int) := rfl
      clear hfm HP HO
      go_wp2_with fail
      go_loopw [10] (fun g10 wr => ∃ j : Nat, j ≤ M ∧ g10 = .int .i64 j ∧ Hid (O = some (nxtM l j)) ∧ wr = w2) (fun g10 _ => M - (intOf g10).toNat)
      case atStart => exact ⟨(p + 1), by omega, by simp, HO2, rfl⟩
      case round =>
        obtain ⟨j, hj, rfl, HJ, rfl⟩ := hrel
        clear HO2
        have b1r := HF3.out.cell b1
        have gxr := HF3.out.cell gx
        have hbtr : bt < wr.heap.size := Nat.lt_of_lt_of_le hbt HF3.out.size
        have glr : g < wr.heap.size := Nat.lt_of_lt_of_le gl HF3.out.size
        have HR3 := hid (HR.out.fresh HF3.out)
        obtain ⟨x0, x1, x2⟩ := HV3.out.zero3
        obtain ⟨y0, y1, y2⟩ := HU3.out.zero3
        obtain ⟨x3, x4, x5⟩ := HV3.out.frz3
        obtain ⟨y3, y4, y5⟩ := HU3.out.frz3
        have l1 := HV3.out.lt
        have l2 := HU3.out.lt
        clear b1 gx hbt gl
        by_cases hjm : j < M
        · obtain ⟨⟨⟨at_, an, az⟩, ⟨vt, vn, vs⟩⟩, hE⟩ : ∃ e, l[j]? = some e := ⟨l[j]'(by rw [HM.out]; exact hjm), by simp⟩
          obtain ⟨q, qa, qc, _, ql, _, p0, p1, p2, p3, p4, p5⟩ := HR3.out.pair HX.out hE
          rw [qa] at gxr
          rw [HM.out] at qc
          dsimp only at p0 p1 p2 p3 p4 p5
          have hnx := nxtM_at hE
          dsimp only at hnx
          rw [hnx] at HJ
          have HE := hid hE
          have HQA := hid qa
          clear hnx hE qa
          by_cases hz : vt = 0
          · rw [if_neg (fun z => z hz)] at HJ
            subst hz
            go_wp2_with fail
            refine ⟨⟨j + 1, by omega, rfl, HJ, trivial⟩, by simp [intOf]; omega⟩
          · rw [if_pos hz] at HJ
            have bz : (vt != 0) = true := by rw [bne_iff_ne]; exact hz
            clear hz
            have HNE := WS.non w
            obtain ⟨q', qa', qc', _, ql', _, e0', e1', e2', e3', e4', e5'⟩ := HR.out.pair HX.out HE.out
            dsimp only at e0' e1' e2' e3' e4' e5'
            rw [HQA.out] at qa'
            cases qa'
            have gxw := HGX.out
            rw [HQA.out] at gxw
            have c0 := fun z : WS w => z.f.cell HB1.out
            have c1 := fun z : WS w => z.f.cell gxw
            have c2 := fun z : WS w => z.f.cell e0'
            have c3 := fun z : WS w => z.f.cell e1'
            have c4 := fun z : WS w => z.f.cell e2'
            have c5 := fun z : WS w => z.f.cell e3'
            have c6 := fun z : WS w => z.f.cell e4'
            have c7 := fun z : WS w => z.f.cell e5'
            clear e0' e1' e2' e3' e4' e5' gxw
            go_wp2_with fail
            refine wp_region_plan [0, 1, 2, 3, 4, 5, 6, 7, 8, 9, 10, 11, 12, 13, 14, 15, 16, 17, 18, 19, 20, 21] .done 22 (fun x => ∃ z : WS w, x = z.y) (by kernel_rfl) (by kernel_rfl) (fun _ _ _ _ _ h => h) ⟨⟨_, HF3.out.drew⟩, rfl⟩ [_, _, _, _, _, _, _, _, _, _, _, _, _, _, _, _, _, _, _, _, _, _] rfl _ rfl ?_
            simp only [List.getElem_toArray, List.getElem_cons_succ, List.getElem_cons_zero, List.drop_succ_cons, List.drop_zero, List.length_cons, List.length_nil, Nat.zero_add]
            repeat go_big_quiet_step (fail)
            refine wpQuiet_nil ?_
            clear c0 c1 c2 c3 c4 c5 c6 c7 HNE
            refine ⟨fun a' a Wz => a = a' ∧ Wz = wr.drew, ?_, fun G HG' => ?_⟩
            · rintro a9 Wz hSW ⟨rfl, hWz⟩
              rw [hWz]
              clear hSW hWz Wz
              unfold wpChain
              go_wp2_with fail
              refine ⟨⟨⟨_, (FN1.out wr (.int .i64 at_) (.int .u64 an) (sv az) HF3.out).drew⟩, rfl⟩, ?_⟩
              unfold wpChain
              go_wp2_with fail
              obtain ⟨r1, r2, r3⟩ := FIN.out wr (.int .i64 at_) (.int .u64 an) (sv az) (.int .i64 vt) (.int .u64 vn) (sv vs) HV3.out HU3.out HF3.out
              refine ⟨⟨⟨_, r3.drew⟩, rfl⟩, ?_⟩
              unfold wpChain
              go_wp2_with fail
              refine ⟨⟨⟨_, r3.drew⟩, rfl⟩, ?_⟩
              rw [wpChain_zero]
              go_wp2_with fail
              refine bodyPost_ret (res_cell2_tmp isVal isVal rfl rfl r1.drew rfl rfl r2.drew rfl) rfl ?_
              exact ⟨by rw [HJ.out]; rfl, r3.drew⟩
            · show G _ _
              rw [HG'.out]
              exact ⟨rfl, rfl⟩
        · have hjM : j = M := by omega
          subst hjM
          rw [nxtM_end (by rw [HM.out]; exact Nat.le_refl _)] at HJ
          go_wp2_with fail
          obtain ⟨r1, r2, r3⟩ := FIN.out _ (.int .i64 0) (.int .u64 0) (sv []) (.int .i64 0) (.int .u64 0) (sv []) HV3.out HU3.out HF3.out
          refine bodyPost_ret (res_cell2_tmp isVal isVal rfl rfl r1 rfl rfl r2 rfl) rfl ?_
          exact ⟨by rw [HJ.out]; rfl, r3⟩
end
end Go.Proofs.Qxb6500574aGreatDoor
