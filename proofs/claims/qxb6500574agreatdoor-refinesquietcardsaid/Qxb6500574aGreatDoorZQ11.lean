/-
  THE WALKS of syntaxm: next: the end of a number.
-/
import Derived.Test.Qxb6500574aGreatDoorZQ10
namespace Go.Proofs.Qxb6500574aGreatDoor
open Go Go.RowKit
set_option linter.unusedVariables false
set_option linter.unusedSimpArgs false
section
variable {w W : World} {A : PzP} {d : PzD} {a : Act} {c : UInt8} {X : Tok × Nat}
set_option maxRecDepth 100000
set_option maxHeartbeats 2000000
theorem num_ok {K : Act → World → Prop} (h : PzM W A d) {L : Nat} (hL : d.e + L ≤ A.s.length) {z : Nat} (hp : parseN ((A.s.drop d.e).take L) = some z) (hX : X.2 = d.e + L) (hX1 : tkc X.1 = ⟨2, [], z, d.e, 0⟩) (H : FrMz (.pointer (some ⟨A.b, 0, none⟩)) (sv A.s) (.int .i64 (d.e : Nat)) (.int .u8 (c.toNat : Nat)) (.int .i64 (d.e + L : Nat)) a) :
    (nE Tryz.f105.body).wp Tryz.prog (Exit.then K (bodyPost Tryz.prog Tryz.f105 (NxQ W A d X))) a W := by
  obtain ⟨u, rfl⟩ := H.form
  obtain ⟨Q, HQ⟩ : ∃ Q : Ending → World → Prop, Hid (NxQ W A d X = Q) := ⟨_, rfl⟩
  rw [HQ.out]
  have c2 : W.cell? ⟨A.b, 2, none⟩ = some (.int .i64 (d.e : Nat)) := h.c 2
  have c0 : W.cell? ⟨A.b, 0, none⟩ = some (.pointer (some ⟨A.bn, 0, none⟩)) := h.c 0
  have c3 : W.cell? ⟨A.b, 3, none⟩ = some (.int .i64 d.t.k) := h.c 3
  have c4 : W.cell? ⟨A.b, 4, none⟩ = some (sv d.t.s) := h.c 4
  have c5 : W.cell? ⟨A.b, 5, none⟩ = some (.int .u64 d.t.n) := h.c 5
  have c6 : W.cell? ⟨A.b, 6, none⟩ = some (.int .i64 d.t.p) := h.c 6
  have c7 : W.cell? ⟨A.b, 7, none⟩ = some (.int .i64 d.t.e) := h.c 7
  have f2 := h.fz 2
  have f3 := h.fz 3
  have f4 := h.fz 4
  have f5 := h.fz 5
  have f6 := h.fz 6
  have f7 := h.fz 7
  have lb := h.lt
  have HH := hid h
  have hle := h.pe
  have ls := h.ls
  obtain ⟨src, HSRC⟩ : ∃ src, Hid (A.s = src) := ⟨_, rfl⟩
  obtain ⟨e, HEE⟩ : ∃ e : Nat, Hid (d.e = e) := ⟨_, rfl⟩
  obtain ⟨⟨xk, xs, xn, xp, xe⟩, HXT⟩ : ∃ t, Hid (d.t = t) := ⟨_, rfl⟩
  rw [HXT.out] at c3 c4 c5 c6 c7
  dsimp only at c3 c4 c5 c6 c7
  rw [HEE.out] at c2 hle hL hX hX1 hp
  rw [HSRC.out] at hle ls hL hp
  rw [HSRC.out, HEE.out]
  have hsz : (⟨src.toArray⟩ : ByteArray).size = src.length := by simp [ByteArray.size]
  obtain ⟨LN, HLN⟩ : ∃ LN : Nat, Hid (src.length = LN) := ⟨_, rfl⟩
  rw [HLN.out] at hsz hle ls
  have hsz2 : src.toArray.size = LN := hsz
  have e31 : e ≤ 3000 := by omega
  rw [HLN.out] at hL
  obtain ⟨cn, HCN⟩ : ∃ cn, Hid (c.toNat = cn) := ⟨_, rfl⟩
  rw [HCN.out]
  obtain ⟨j, HJ⟩ : ∃ j, Hid (e + L = j) := ⟨_, rfl⟩
  rw [HJ.out] at hL hX ⊢
  have j31 : j ≤ 3000 := by omega
  obtain ⟨x, HXX⟩ : ∃ x, Hid ((src.drop e).take L = x) := ⟨_, rfl⟩
  rw [HXX.out] at hp
  have hcut : ∀ w, (Instr.sliceAt 9 (sv src) (some (.int .i64 (e : Int))) (some (.int .i64 (j : Int))) none).run Tryz.prog w = .ok (sv x) w := fun w => by
    have := run_cut src (lo := (e : Int)) (hi := (j : Int)) rfl rfl (by have := HJ.out; omega) (by rw [HLN.out]; exact hL) w
    rw [show j - e = L by have := HJ.out; omega, HXX.out] at this
    exact this
  have TA : Hid (∀ W2, Calls Tryz.prog 183 #[.pointer (some ⟨A.bn, 0, none⟩), sv x] W2 (ParsePost (parseM x) W2)) := fun W2 => parse_m (by rw [← HXX.out, List.length_take]; have := HJ.out; omega)
  rw [← parse_okM] at TA
  rw [hp] at TA
  have HFIN : Hid (∀ W2, Fr (fun _ => False) (W.setCell ⟨A.b, 2, none⟩ (.int .i64 (j : Nat))) W2 → PzM W2 A { d with e := j } ∧ Q (.returned (.tuple #[])) (((((W2.setCell ⟨A.b, 3, none⟩ (.int .i64 2)).setCell ⟨A.b, 4, none⟩ (sv [])).setCell ⟨A.b, 5, none⟩ (.int .u64 (z : Nat))).setCell ⟨A.b, 6, none⟩ (.int .i64 (e : Nat))).setCell ⟨A.b, 7, none⟩ (.int .i64 0))) := fun W2 f => by
    rw [← HQ.out]
    obtain ⟨a1, b1⟩ := HH.out.pos j (by rw [HSRC.out, HLN.out]; exact hL) (u := (j : Int)) rfl
    obtain ⟨a2, b2⟩ := (a1.fresh f).tok ⟨2, [], z, e, 0⟩
    refine ⟨a1.fresh f, rfl, ?_, (b1.trans (PzS.fresh A f)).trans b2⟩
    rw [hX, hX1]
    exact a2
  clear h H hp hX hX1
  obtain ⟨cc, hcc⟩ : ∃ cc, cc = nE Tryz.f105.body := ⟨_, rfl⟩
  rw [← hcc]
  simp only [n5, n4, n3, n2, n1, nxT, zR, zL, nN, nM, nE, zT, zE, zI, Tryz.f105, Option.getD_some] at hcc
  subst hcc
  go_wp2_with fail
  obtain ⟨W1, HW1⟩ : ∃ W1, Hid (W.setCell ⟨A.b, 2, none⟩ (.int .i64 (j : Nat)) = W1) := ⟨_, rfl⟩
  rw [HW1.out]
  have lb1 : A.b < W1.heap.size := by rw [← HW1.out]; simpa using lb
  have c01 : W1.cell? ⟨A.b, 0, none⟩ = some (.pointer (some ⟨A.bn, 0, none⟩)) := by
    rw [← HW1.out]
    exact ((HH.out.pos j (by rw [HSRC.out, HLN.out]; exact hL) (u := (j : Int)) rfl).1).c 0
  have k1 := fun z : WS W1 => z.f.cell c01
  have NE := WS.non W1
  refine wp_region_plan [0, 1, 2, 3, 4, 5, 6, 7] (.one 8 (.quiet [9, 10, 11] .done)) 12 (fun x => ∃ s : WS W1, x = s.y) (by kernel_rfl) (by kernel_rfl) (fun _ _ _ _ _ h => h) ⟨⟨W1.drew, (Fr.refl _ _).drew⟩, rfl⟩ [_, _, _, _, _, _, _, _] rfl _ rfl ?_
  simp only [List.getElem_toArray, List.getElem_cons_succ, List.getElem_cons_zero, List.drop_succ_cons, List.drop_zero, List.length_cons, List.length_nil, Nat.zero_add]
  repeat go_big_quiet_step (fail)
  refine wpQuiet_nil ?_
  refine ⟨fun a' a W2 =>  a = ((((a'.put (some 229) (.tuple #[.int .u64 z, .int .i64 0])).put (some 220) (.tuple #[.int .u64 z, .int .i64 0])).put (some 230) (.int .u64 z)).put (some 231) (.int .i64 0)) ∧ Fr (fun _ => False) W1 W2, ?_, ?_⟩
  · rintro a W2 hSW ⟨rfl, f4⟩
    clear hSW NE k1
    have HF4 := hid f4
    clear f4
    simp only [Act.put, List.setIfInBounds_toArray, List.set_cons_succ, List.set_cons_zero]
    unfold wpChain
    go_wp2
    refine ⟨⟨⟨_, HF4.out⟩, rfl⟩, ?_⟩
    unfold wpChain
    go_wp2
    refine ⟨⟨⟨_, HF4.out⟩, rfl⟩, ?_⟩
    rw [wpChain_zero]
    have HQ3 := hid (HFIN.out W2 (by rw [HW1.out]; exact HF4.out))
    have M3 := HQ3.out.1
    clear c0 c2 c3 c4 c5 c6 c7 f2 f3 f4 f5 f6 f7 lb lb1 c01
    have c3 : W2.cell? ⟨A.b, 3, none⟩ = some (.int .i64 d.t.k) := M3.c 3
    have c4 : W2.cell? ⟨A.b, 4, none⟩ = some (sv d.t.s) := M3.c 4
    have c5 : W2.cell? ⟨A.b, 5, none⟩ = some (.int .u64 d.t.n) := M3.c 5
    have c6 : W2.cell? ⟨A.b, 6, none⟩ = some (.int .i64 d.t.p) := M3.c 6
    have c7 : W2.cell? ⟨A.b, 7, none⟩ = some (.int .i64 d.t.e) := M3.c 7
    rw [HXT.out] at c3 c4 c5 c6 c7
    have f3 := M3.fz 3
    have f4 := M3.fz 4
    have f5 := M3.fz 5
    have f6 := M3.fz 6
    have f7 := M3.fz 7
    have lb := M3.lt
    clear M3
    go_wp2_with fail
    refine bodyPost_ret (results_none rfl _ _ _) rfl ?_
    exact HQ3.out.2
  · intro G HG
    refine ⟨_, rfl, ?_⟩
    go_wp2_with fail
    refine (TA.out _).mono ?_
    rintro e1 w1 ⟨rfl, G1⟩
    have f6 : Fr (fun _ => False) W1 w1 := ((Fr.refl _ W1).drew).trans G1 (fun _ _ x => x)
    clear G1
    go_wp2_with fail
    refine ⟨⟨⟨_, f6⟩, rfl⟩, [_, _, _], rfl, ?_⟩
    simp only [List.getElem_toArray, List.getElem_cons_succ, List.getElem_cons_zero]
    repeat go_big_quiet_step (fail)
    refine wpQuiet_nil ?_
    show G _ _
    rw [HG.out]
    exact ⟨by kernel_rfl, f6⟩
theorem num_bad {K : Act → World → Prop} (h : PzM W A d) {L : Nat} (hL : d.e + L ≤ A.s.length) (hp : parseN ((A.s.drop d.e).take L) = none) (hX : X.2 = d.e + L) (hX1 : tkc X.1 = ⟨5, [], 0, d.e, 2⟩) (H : FrMz (.pointer (some ⟨A.b, 0, none⟩)) (sv A.s) (.int .i64 (d.e : Nat)) (.int .u8 (c.toNat : Nat)) (.int .i64 (d.e + L : Nat)) a) :
    (nE Tryz.f105.body).wp Tryz.prog (Exit.then K (bodyPost Tryz.prog Tryz.f105 (NxQ W A d X))) a W := by
  obtain ⟨u, rfl⟩ := H.form
  obtain ⟨Q, HQ⟩ : ∃ Q : Ending → World → Prop, Hid (NxQ W A d X = Q) := ⟨_, rfl⟩
  rw [HQ.out]
  have c2 : W.cell? ⟨A.b, 2, none⟩ = some (.int .i64 (d.e : Nat)) := h.c 2
  have c0 : W.cell? ⟨A.b, 0, none⟩ = some (.pointer (some ⟨A.bn, 0, none⟩)) := h.c 0
  have c3 : W.cell? ⟨A.b, 3, none⟩ = some (.int .i64 d.t.k) := h.c 3
  have c4 : W.cell? ⟨A.b, 4, none⟩ = some (sv d.t.s) := h.c 4
  have c5 : W.cell? ⟨A.b, 5, none⟩ = some (.int .u64 d.t.n) := h.c 5
  have c6 : W.cell? ⟨A.b, 6, none⟩ = some (.int .i64 d.t.p) := h.c 6
  have c7 : W.cell? ⟨A.b, 7, none⟩ = some (.int .i64 d.t.e) := h.c 7
  have f2 := h.fz 2
  have f3 := h.fz 3
  have f4 := h.fz 4
  have f5 := h.fz 5
  have f6 := h.fz 6
  have f7 := h.fz 7
  have lb := h.lt
  have HH := hid h
  have hle := h.pe
  have ls := h.ls
  obtain ⟨src, HSRC⟩ : ∃ src, Hid (A.s = src) := ⟨_, rfl⟩
  obtain ⟨e, HEE⟩ : ∃ e : Nat, Hid (d.e = e) := ⟨_, rfl⟩
  obtain ⟨⟨xk, xs, xn, xp, xe⟩, HXT⟩ : ∃ t, Hid (d.t = t) := ⟨_, rfl⟩
  rw [HXT.out] at c3 c4 c5 c6 c7
  dsimp only at c3 c4 c5 c6 c7
  rw [HEE.out] at c2 hle hL hX hX1 hp
  rw [HSRC.out] at hle ls hL hp
  rw [HSRC.out, HEE.out]
  have hsz : (⟨src.toArray⟩ : ByteArray).size = src.length := by simp [ByteArray.size]
  obtain ⟨LN, HLN⟩ : ∃ LN : Nat, Hid (src.length = LN) := ⟨_, rfl⟩
  rw [HLN.out] at hsz hle ls
  have hsz2 : src.toArray.size = LN := hsz
  have e31 : e ≤ 3000 := by omega
  rw [HLN.out] at hL
  obtain ⟨cn, HCN⟩ : ∃ cn, Hid (c.toNat = cn) := ⟨_, rfl⟩
  rw [HCN.out]
  obtain ⟨j, HJ⟩ : ∃ j, Hid (e + L = j) := ⟨_, rfl⟩
  rw [HJ.out] at hL hX ⊢
  have j31 : j ≤ 3000 := by omega
  obtain ⟨x, HXX⟩ : ∃ x, Hid ((src.drop e).take L = x) := ⟨_, rfl⟩
  rw [HXX.out] at hp
  have hcut : ∀ w, (Instr.sliceAt 9 (sv src) (some (.int .i64 (e : Int))) (some (.int .i64 (j : Int))) none).run Tryz.prog w = .ok (sv x) w := fun w => by
    have := run_cut src (lo := (e : Int)) (hi := (j : Int)) rfl rfl (by have := HJ.out; omega) (by rw [HLN.out]; exact hL) w
    rw [show j - e = L by have := HJ.out; omega, HXX.out] at this
    exact this
  have TA : Hid (∀ W2, Calls Tryz.prog 183 #[.pointer (some ⟨A.bn, 0, none⟩), sv x] W2 (ParsePost (parseM x) W2)) := fun W2 => parse_m (by rw [← HXX.out, List.length_take]; have := HJ.out; omega)
  rw [← parse_okM] at TA
  rw [hp] at TA
  have HFIN : Hid (∀ W2, Fr (fun _ => False) (W.setCell ⟨A.b, 2, none⟩ (.int .i64 (j : Nat))) W2 → PzM W2 A { d with e := j } ∧ Q (.returned (.tuple #[])) (((((W2.setCell ⟨A.b, 3, none⟩ (.int .i64 5)).setCell ⟨A.b, 4, none⟩ (sv [])).setCell ⟨A.b, 5, none⟩ (.int .u64 0)).setCell ⟨A.b, 6, none⟩ (.int .i64 (e : Nat))).setCell ⟨A.b, 7, none⟩ (.int .i64 2))) := fun W2 f => by
    rw [← HQ.out]
    obtain ⟨a1, b1⟩ := HH.out.pos j (by rw [HSRC.out, HLN.out]; exact hL) (u := (j : Int)) rfl
    obtain ⟨a2, b2⟩ := (a1.fresh f).tok ⟨5, [], 0, e, 2⟩
    refine ⟨a1.fresh f, rfl, ?_, (b1.trans (PzS.fresh A f)).trans b2⟩
    rw [hX, hX1]
    exact a2
  clear h H hp hX hX1
  obtain ⟨cc, hcc⟩ : ∃ cc, cc = nE Tryz.f105.body := ⟨_, rfl⟩
  rw [← hcc]
  simp only [n5, n4, n3, n2, n1, nxT, zR, zL, nN, nM, nE, zT, zE, zI, Tryz.f105, Option.getD_some] at hcc
  subst hcc
  go_wp2_with fail
  obtain ⟨W1, HW1⟩ : ∃ W1, Hid (W.setCell ⟨A.b, 2, none⟩ (.int .i64 (j : Nat)) = W1) := ⟨_, rfl⟩
  rw [HW1.out]
  have lb1 : A.b < W1.heap.size := by rw [← HW1.out]; simpa using lb
  have c01 : W1.cell? ⟨A.b, 0, none⟩ = some (.pointer (some ⟨A.bn, 0, none⟩)) := by
    rw [← HW1.out]
    exact ((HH.out.pos j (by rw [HSRC.out, HLN.out]; exact hL) (u := (j : Int)) rfl).1).c 0
  have k1 := fun z : WS W1 => z.f.cell c01
  have NE := WS.non W1
  refine wp_region_plan [0, 1, 2, 3, 4, 5, 6, 7] (.one 8 (.quiet [9, 10, 11] .done)) 12 (fun x => ∃ s : WS W1, x = s.y) (by kernel_rfl) (by kernel_rfl) (fun _ _ _ _ _ h => h) ⟨⟨W1.drew, (Fr.refl _ _).drew⟩, rfl⟩ [_, _, _, _, _, _, _, _] rfl _ rfl ?_
  simp only [List.getElem_toArray, List.getElem_cons_succ, List.getElem_cons_zero, List.drop_succ_cons, List.drop_zero, List.length_cons, List.length_nil, Nat.zero_add]
  repeat go_big_quiet_step (fail)
  refine wpQuiet_nil ?_
  refine ⟨fun a' a W2 => ∃ er : Nat, er ≠ 0 ∧ a = ((((a'.put (some 229) (.tuple #[.int .u64 0, .int .i64 (er : Nat)])).put (some 220) (.tuple #[.int .u64 0, .int .i64 (er : Nat)])).put (some 230) (.int .u64 0)).put (some 231) (.int .i64 (er : Nat))) ∧ Fr (fun _ => False) W1 W2, ?_, ?_⟩
  · rintro a W2 hSW ⟨er, he, rfl, f4⟩
    clear hSW NE k1
    have HF4 := hid f4
    clear f4
    simp only [Act.put, List.setIfInBounds_toArray, List.set_cons_succ, List.set_cons_zero]
    unfold wpChain
    go_wp2
    refine ⟨⟨⟨_, HF4.out⟩, rfl⟩, ?_⟩
    unfold wpChain
    go_wp2
    refine ⟨⟨⟨_, HF4.out⟩, rfl⟩, ?_⟩
    rw [wpChain_zero]
    have HQ3 := hid (HFIN.out W2 (by rw [HW1.out]; exact HF4.out))
    have M3 := HQ3.out.1
    clear c0 c2 c3 c4 c5 c6 c7 f2 f3 f4 f5 f6 f7 lb lb1 c01
    have c3 : W2.cell? ⟨A.b, 3, none⟩ = some (.int .i64 d.t.k) := M3.c 3
    have c4 : W2.cell? ⟨A.b, 4, none⟩ = some (sv d.t.s) := M3.c 4
    have c5 : W2.cell? ⟨A.b, 5, none⟩ = some (.int .u64 d.t.n) := M3.c 5
    have c6 : W2.cell? ⟨A.b, 6, none⟩ = some (.int .i64 d.t.p) := M3.c 6
    have c7 : W2.cell? ⟨A.b, 7, none⟩ = some (.int .i64 d.t.e) := M3.c 7
    rw [HXT.out] at c3 c4 c5 c6 c7
    have f3 := M3.fz 3
    have f4 := M3.fz 4
    have f5 := M3.fz 5
    have f6 := M3.fz 6
    have f7 := M3.fz 7
    have lb := M3.lt
    clear M3
    have ez : ((er : Int) != 0) = true := by rw [bne_iff_ne]; omega
    go_wp2_with fail
    refine bodyPost_ret (results_none rfl _ _ _) rfl ?_
    exact HQ3.out.2
  · intro G HG
    refine ⟨_, rfl, ?_⟩
    go_wp2_with fail
    refine (TA.out _).mono ?_
    rintro e1 w1 ⟨⟨er, he, rfl⟩, G1⟩
    have f6 : Fr (fun _ => False) W1 w1 := ((Fr.refl _ W1).drew).trans G1 (fun _ _ x => x)
    clear G1
    go_wp2_with fail
    refine ⟨⟨⟨_, f6⟩, rfl⟩, [_, _, _], rfl, ?_⟩
    simp only [List.getElem_toArray, List.getElem_cons_succ, List.getElem_cons_zero]
    repeat go_big_quiet_step (fail)
    refine wpQuiet_nil ?_
    show G _ _
    rw [HG.out]
    exact ⟨er, he, by kernel_rfl, f6⟩
end
end Go.Proofs.Qxb6500574aGreatDoor
