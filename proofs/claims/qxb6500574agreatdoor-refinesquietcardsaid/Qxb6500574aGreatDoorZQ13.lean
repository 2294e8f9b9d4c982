/-
  THE WALKS of syntaxm: next: signs.
-/
import Derived.Test.Qxb6500574aGreatDoorZQ12
namespace Go.Proofs.Qxb6500574aGreatDoor
open Go Go.RowKit
set_option linter.unusedVariables false
set_option linter.unusedSimpArgs false
theorem sg_sym {x : Bs} (h : signN x ≠ 1) : 24 ≤ signN x ∧ signN x ≤ 46 ∧ symS (signN x) = x := by
  unfold signN at h ⊢
  cases hi : idx signL x with
  | none => rw [hi] at h; exact absurd rfl h
  | some i =>
    dsimp only
    have hl := idx_lt hi
    have hl23 : i < 23 := hl
    refine ⟨by omega, by omega, ?_⟩
    unfold symS
    rw [if_neg (by omega), Nat.add_sub_cancel_left]
    unfold idx at hi
    rw [List.findIdx?_eq_some_iff_getElem] at hi
    obtain ⟨h1, h2, _⟩ := hi
    rw [List.getD_eq_getElem?_getD, List.getElem?_eq_getElem h1]
    simpa using h2
theorem tk_sign {k e : Nat} (h : 24 ≤ k) : tkc ⟨k, e, [], 0, 0⟩ = ⟨4, symS k, 0, e, 0⟩ := by
  unfold tkc
  dsimp only
  rw [if_neg (by omega), if_neg (by omega), if_neg (by omega), if_neg (by omega), if_neg (by omega)]
section
variable {w W : World} {A : PzP} {d : PzD} {a : Act} {c : UInt8} {X : Tok × Nat}
set_option maxRecDepth 100000
set_option maxHeartbeats 2000000
theorem nx_two (h : PzM W A d) (hX : X = tokM A.s d.e) (hc : A.s[d.e]? = some c) (n1 : isLet c = false) (n2' : isDig c = false) (n3' : c ≠ 34) (h2 : isTwo c ∧ A.s[d.e + 1]? = some (twinN c)) (H : FrMz (.pointer (some ⟨A.b, 0, none⟩)) (sv A.s) (.int .i64 (d.e : Nat)) (.int .u8 (c.toNat : Nat)) (.int .i64 (d.e : Nat)) a) :
    (n4 Tryz.f105.body).wp Tryz.prog (bodyPost Tryz.prog Tryz.f105 (NxQ W A d X)) a W := by
  obtain ⟨u, rfl⟩ := H.form
  obtain ⟨Q, HQ⟩ : ∃ Q : Ending → World → Prop, Hid (NxQ W A d X = Q) := ⟨_, rfl⟩
  rw [HQ.out]
  have c2 : W.cell? ⟨A.b, 2, none⟩ = some (.int .i64 (d.e : Nat)) := h.c 2
  have c0 : W.cell? ⟨A.b, 0, none⟩ = some (.pointer (some ⟨A.bn, 0, none⟩)) := h.c 0
  have c3 : W.cell? ⟨A.b, 3, none⟩ = some (.int .i64 d.t.k) := h.c 3
  have c4 : W.cell? ⟨A.b, 4, none⟩ = some (sv d.t.s) := h.c 4
  have c5 : W.cell? ⟨A.b, 5, none⟩ = some (.int .u64 d.t.n) := h.c 5
  have c6 : W.cell? ⟨A.b, 6, none⟩ = some (.int .i64 d.t.p) := h.c 6
  have c7 : W.cell? ⟨A.b, 7, none⟩ = some (.int .i64 d.t.e) := h.c 7
  have f2 := h.fz 2
  have f3 := h.fz 3
  have f4 := h.fz 4
  have f5 := h.fz 5
  have f6 := h.fz 6
  have f7 := h.fz 7
  have lb := h.lt
  have HH := hid h
  have hle := h.pe
  have ls := h.ls
  obtain ⟨src, HSRC⟩ : ∃ src, Hid (A.s = src) := ⟨_, rfl⟩
  obtain ⟨e, HEE⟩ : ∃ e : Nat, Hid (d.e = e) := ⟨_, rfl⟩
  obtain ⟨⟨xk, xs, xn, xp, xe⟩, HXT⟩ : ∃ t, Hid (d.t = t) := ⟨_, rfl⟩
  rw [HXT.out] at c3 c4 c5 c6 c7
  dsimp only at c3 c4 c5 c6 c7
  rw [HEE.out] at c2 hle hc
  rw [HSRC.out] at hle ls hc
  rw [HSRC.out, HEE.out]
  have hsz : (⟨src.toArray⟩ : ByteArray).size = src.length := by simp [ByteArray.size]
  obtain ⟨LN, HLN⟩ : ∃ LN : Nat, Hid (src.length = LN) := ⟨_, rfl⟩
  rw [HLN.out] at hsz hle ls
  have hsz2 : src.toArray.size = LN := hsz
  have e31 : e ≤ 3000 := by omega
  rw [HSRC.out, HEE.out] at h2
  have hlt : e < LN := by have := (List.getElem?_eq_some_iff.1 hc).1; rw [HLN.out] at this; exact this
  have hX1 : X = (⟨signN [c, twinN c], e, [], 0, 0⟩, e + 2) := by
    rw [hX, HSRC.out, HEE.out]
    unfold tokM
    rw [hc]
    dsimp only
    rw [if_neg (by rw [n1]; decide), if_neg (by rw [n2']; decide), if_neg n3', if_pos h2, if_neg]
    rcases h2.1 with z | z | z | z | z | z <;> subst z <;> decide
  have hl1 : e + 1 < LN := by have := (List.getElem?_eq_some_iff.1 h2.2).1; rw [HLN.out] at this; exact this
  have HX1 := hid hX1
  have hcut : ∀ w, (Instr.sliceAt 9 (sv src) (some (.int .i64 (e : Int))) (some (.int .i64 ((e : Int) + 2))) none).run Tryz.prog w = .ok (sv [c, twinN c]) w := fun w => by
    have := run_cut src (lo := (e : Int)) (hi := (e : Int) + 2) (i := e) (j := e + 2) rfl (by omega) (by omega) (by rw [HLN.out]; omega) w
    rw [show e + 2 - e = 2 by omega, drop_at hc, drop_at h2.2] at this
    exact this
  have hsg : signN [c, twinN c] ≠ 1 := by rcases h2.1 with z | z | z | z | z | z <;> subst z <;> decide
  obtain ⟨s1, s2, s3⟩ := sg_sym hsg
  have FIN : Hid (Q (.returned (.tuple #[])) ((((((W.setCell ⟨A.b, 2, none⟩ (.int .i64 ((e : Int) + 2))).setCell ⟨A.b, 3, none⟩ (.int .i64 4)).setCell ⟨A.b, 4, none⟩ (sv [c, twinN c])).setCell ⟨A.b, 5, none⟩ (.int .u64 0)).setCell ⟨A.b, 6, none⟩ (.int .i64 (e : Nat))).setCell ⟨A.b, 7, none⟩ (.int .i64 0))) := by
    show Q _ _
    rw [← HQ.out]
    exact HH.out.fin (X := X) (e + 2) (by rw [HSRC.out, HLN.out]; omega) ⟨4, [c, twinN c], 0, e, 0⟩ (by rw [HX1.out]) (by rw [HX1.out]; show tkc _ = _; rw [tk_sign s1, s3])
  have hcs := h2.1
  clear hc h H hX hX1 h2 n1 n2' n3' hsg s1 s2 s3
  obtain ⟨TL, HTL⟩ : ∃ TL, Hid (n5 Tryz.f105.body = TL) := ⟨_, rfl⟩
  have EQ : n4 Tryz.f105.body = Code.seq (zL (n4 Tryz.f105.body)) (n5 Tryz.f105.body) := by kernel_rfl
  rw [HTL.out] at EQ
  rw [EQ]
  clear EQ HTL
  obtain ⟨cc, hcc⟩ : ∃ cc, cc = zL (n4 Tryz.f105.body) := ⟨_, rfl⟩
  rw [← hcc]
  simp only [n5, n4, n3, n2, n1, nxT, zR, zL, Tryz.f105, Option.getD_some] at hcc
  subst hcc
  rcases hcs with rfl | rfl | rfl | rfl | rfl | rfl
  · replace hcut : ∀ w, (Instr.sliceAt 9 (sv src) (some (.int .i64 (e : Int))) (some (.int .i64 ((e : Int) + 2))) none).run Tryz.prog w = .ok (sv [46, 46]) w := hcut
    replace FIN : Hid (Q (.returned (.tuple #[])) ((((((W.setCell ⟨A.b, 2, none⟩ (.int .i64 ((e : Int) + 2))).setCell ⟨A.b, 3, none⟩ (.int .i64 4)).setCell ⟨A.b, 4, none⟩ (sv [46, 46])).setCell ⟨A.b, 5, none⟩ (.int .u64 0)).setCell ⟨A.b, 6, none⟩ (.int .i64 (e : Nat))).setCell ⟨A.b, 7, none⟩ (.int .i64 0))) := FIN
    go_wp2_with fail
    refine bodyPost_ret (results_none rfl _ _ _) rfl ?_
    exact FIN.out
  · replace hcut : ∀ w, (Instr.sliceAt 9 (sv src) (some (.int .i64 (e : Int))) (some (.int .i64 ((e : Int) + 2))) none).run Tryz.prog w = .ok (sv [47, 47]) w := hcut
    replace FIN : Hid (Q (.returned (.tuple #[])) ((((((W.setCell ⟨A.b, 2, none⟩ (.int .i64 ((e : Int) + 2))).setCell ⟨A.b, 3, none⟩ (.int .i64 4)).setCell ⟨A.b, 4, none⟩ (sv [47, 47])).setCell ⟨A.b, 5, none⟩ (.int .u64 0)).setCell ⟨A.b, 6, none⟩ (.int .i64 (e : Nat))).setCell ⟨A.b, 7, none⟩ (.int .i64 0))) := FIN
    go_wp2_with fail
    refine bodyPost_ret (results_none rfl _ _ _) rfl ?_
    exact FIN.out
  · replace hcut : ∀ w, (Instr.sliceAt 9 (sv src) (some (.int .i64 (e : Int))) (some (.int .i64 ((e : Int) + 2))) none).run Tryz.prog w = .ok (sv [61, 61]) w := hcut
    replace FIN : Hid (Q (.returned (.tuple #[])) ((((((W.setCell ⟨A.b, 2, none⟩ (.int .i64 ((e : Int) + 2))).setCell ⟨A.b, 3, none⟩ (.int .i64 4)).setCell ⟨A.b, 4, none⟩ (sv [61, 61])).setCell ⟨A.b, 5, none⟩ (.int .u64 0)).setCell ⟨A.b, 6, none⟩ (.int .i64 (e : Nat))).setCell ⟨A.b, 7, none⟩ (.int .i64 0))) := FIN
    go_wp2_with fail
    refine bodyPost_ret (results_none rfl _ _ _) rfl ?_
    exact FIN.out
  · replace hcut : ∀ w, (Instr.sliceAt 9 (sv src) (some (.int .i64 (e : Int))) (some (.int .i64 ((e : Int) + 2))) none).run Tryz.prog w = .ok (sv [126, 61]) w := hcut
    replace FIN : Hid (Q (.returned (.tuple #[])) ((((((W.setCell ⟨A.b, 2, none⟩ (.int .i64 ((e : Int) + 2))).setCell ⟨A.b, 3, none⟩ (.int .i64 4)).setCell ⟨A.b, 4, none⟩ (sv [126, 61])).setCell ⟨A.b, 5, none⟩ (.int .u64 0)).setCell ⟨A.b, 6, none⟩ (.int .i64 (e : Nat))).setCell ⟨A.b, 7, none⟩ (.int .i64 0))) := FIN
    go_wp2_with fail
    refine bodyPost_ret (results_none rfl _ _ _) rfl ?_
    exact FIN.out
  · replace hcut : ∀ w, (Instr.sliceAt 9 (sv src) (some (.int .i64 (e : Int))) (some (.int .i64 ((e : Int) + 2))) none).run Tryz.prog w = .ok (sv [60, 61]) w := hcut
    replace FIN : Hid (Q (.returned (.tuple #[])) ((((((W.setCell ⟨A.b, 2, none⟩ (.int .i64 ((e : Int) + 2))).setCell ⟨A.b, 3, none⟩ (.int .i64 4)).setCell ⟨A.b, 4, none⟩ (sv [60, 61])).setCell ⟨A.b, 5, none⟩ (.int .u64 0)).setCell ⟨A.b, 6, none⟩ (.int .i64 (e : Nat))).setCell ⟨A.b, 7, none⟩ (.int .i64 0))) := FIN
    go_wp2_with fail
    refine bodyPost_ret (results_none rfl _ _ _) rfl ?_
    exact FIN.out
  · replace hcut : ∀ w, (Instr.sliceAt 9 (sv src) (some (.int .i64 (e : Int))) (some (.int .i64 ((e : Int) + 2))) none).run Tryz.prog w = .ok (sv [62, 61]) w := hcut
    replace FIN : Hid (Q (.returned (.tuple #[])) ((((((W.setCell ⟨A.b, 2, none⟩ (.int .i64 ((e : Int) + 2))).setCell ⟨A.b, 3, none⟩ (.int .i64 4)).setCell ⟨A.b, 4, none⟩ (sv [62, 61])).setCell ⟨A.b, 5, none⟩ (.int .u64 0)).setCell ⟨A.b, 6, none⟩ (.int .i64 (e : Nat))).setCell ⟨A.b, 7, none⟩ (.int .i64 0))) := FIN
    go_wp2_with fail
    refine bodyPost_ret (results_none rfl _ _ _) rfl ?_
    exact FIN.out
theorem nx_two0 (h : PzM W A d) (hc : A.s[d.e]? = some c) (h2 : ¬ (isTwo c ∧ A.s[d.e + 1]? = some (twinN c))) {Q : Ending → World → Prop} (H : FrMz (.pointer (some ⟨A.b, 0, none⟩)) (sv A.s) (.int .i64 (d.e : Nat)) (.int .u8 (c.toNat : Nat)) (.int .i64 (d.e : Nat)) a)
    (hN : ∀ a : Act, FrMz (.pointer (some ⟨A.b, 0, none⟩)) (sv A.s) (.int .i64 (d.e : Nat)) (.int .u8 (c.toNat : Nat)) (.int .i64 (d.e : Nat)) a → (n5 Tryz.f105.body).wp Tryz.prog (bodyPost Tryz.prog Tryz.f105 Q) a W) : (n4 Tryz.f105.body).wp Tryz.prog (bodyPost Tryz.prog Tryz.f105 Q) a W := by
  obtain ⟨u, rfl⟩ := H.form
  have hle := h.pe
  have ls := h.ls
  obtain ⟨src, HSRC⟩ : ∃ src, Hid (A.s = src) := ⟨_, rfl⟩
  obtain ⟨e, HEE⟩ : ∃ e : Nat, Hid (d.e = e) := ⟨_, rfl⟩
  obtain ⟨cn, HCN⟩ : ∃ cn, Hid (c.toNat = cn) := ⟨_, rfl⟩
  rw [HEE.out] at hle hN hc h2
  rw [HSRC.out] at hle ls hN hc h2
  rw [HCN.out] at hN
  rw [HSRC.out, HEE.out, HCN.out]
  have hsz : (⟨src.toArray⟩ : ByteArray).size = src.length := by simp [ByteArray.size]
  obtain ⟨LN, HLN⟩ : ∃ LN : Nat, Hid (src.length = LN) := ⟨_, rfl⟩
  rw [HLN.out] at hsz hle ls
  have hsz2 : src.toArray.size = LN := hsz
  have e31 : e ≤ 3000 := by omega
  obtain ⟨TL, HTL⟩ : ∃ TL, Hid (n5 Tryz.f105.body = TL) := ⟨_, rfl⟩
  have EQ : n4 Tryz.f105.body = Code.seq (zL (n4 Tryz.f105.body)) (n5 Tryz.f105.body) := by kernel_rfl
  rw [HTL.out] at EQ hN
  rw [EQ]
  clear EQ HTL
  obtain ⟨cc, hcc⟩ : ∃ cc, cc = zL (n4 Tryz.f105.body) := ⟨_, rfl⟩
  rw [← hcc]
  simp only [n5, n4, n3, n2, n1, nxT, zR, zL, Tryz.f105, Option.getD_some] at hcc
  subst hcc
  have HN := hid hN
  clear hN h H
  by_cases hl1 : e + 1 < LN
  · obtain ⟨c1, hc1⟩ : ∃ c, src[e + 1]? = some c := ⟨src[e + 1]'(by rw [HLN.out]; exact hl1), by simp⟩
    have hcut : ∀ w, (Instr.sliceAt 9 (sv src) (some (.int .i64 (e : Int))) (some (.int .i64 ((e : Int) + 2))) none).run Tryz.prog w = .ok (sv [c, c1]) w := fun w => by
      have := run_cut src (lo := (e : Int)) (hi := (e : Int) + 2) (i := e) (j := e + 2) rfl (by omega) (by omega) (by rw [HLN.out]; omega) w
      rw [show e + 2 - e = 2 by omega, drop_at hc, drop_at hc1] at this
      exact this
    have q0 : (([c, c1] : Bs) == [61, 61]) = false := by
      rw [beq_eq_false_iff_ne]
      intro z
      simp only [List.cons.injEq, and_true] at z
      obtain ⟨rfl, rfl⟩ := z
      exact h2 ⟨.inr (.inr (.inl rfl)), by rw [hc1]; rfl⟩
    have q1 : (([c, c1] : Bs) == [126, 61]) = false := by
      rw [beq_eq_false_iff_ne]
      intro z
      simp only [List.cons.injEq, and_true] at z
      obtain ⟨rfl, rfl⟩ := z
      exact h2 ⟨.inr (.inr (.inr (.inl rfl))), by rw [hc1]; rfl⟩
    have q2 : (([c, c1] : Bs) == [60, 61]) = false := by
      rw [beq_eq_false_iff_ne]
      intro z
      simp only [List.cons.injEq, and_true] at z
      obtain ⟨rfl, rfl⟩ := z
      exact h2 ⟨.inr (.inr (.inr (.inr (.inl rfl)))), by rw [hc1]; rfl⟩
    have q3 : (([c, c1] : Bs) == [62, 61]) = false := by
      rw [beq_eq_false_iff_ne]
      intro z
      simp only [List.cons.injEq, and_true] at z
      obtain ⟨rfl, rfl⟩ := z
      exact h2 ⟨.inr (.inr (.inr (.inr (.inr rfl)))), by rw [hc1]; rfl⟩
    have q4 : (([c, c1] : Bs) == [46, 46]) = false := by
      rw [beq_eq_false_iff_ne]
      intro z
      simp only [List.cons.injEq, and_true] at z
      obtain ⟨rfl, rfl⟩ := z
      exact h2 ⟨.inl rfl, by rw [hc1]; rfl⟩
    have q5 : (([c, c1] : Bs) == [47, 47]) = false := by
      rw [beq_eq_false_iff_ne]
      intro z
      simp only [List.cons.injEq, and_true] at z
      obtain ⟨rfl, rfl⟩ := z
      exact h2 ⟨.inr (.inl rfl), by rw [hc1]; rfl⟩
    obtain ⟨x, HXX⟩ : ∃ x, Hid (([c, c1] : Bs) = x) := ⟨_, rfl⟩
    rw [HXX.out] at hcut q0 q1 q2 q3 q4 q5
    clear hc hc1 h2
    go_wp2_with fail
    exact HN.out _ ⟨by kernel_rfl, by kernel_rfl, by kernel_rfl, by kernel_rfl, by kernel_rfl, by kernel_rfl, rfl⟩
  · have bl : ¬ ((e : Int) + 1 < (LN : Int)) := by omega
    clear hc h2
    go_wp2_with fail
    exact HN.out _ ⟨by kernel_rfl, by kernel_rfl, by kernel_rfl, by kernel_rfl, by kernel_rfl, by kernel_rfl, rfl⟩
theorem nx_one (h : PzM W A d) (hX : X = tokM A.s d.e) (hc : A.s[d.e]? = some c) (n1 : isLet c = false) (n2' : isDig c = false) (n3' : c ≠ 34) (h2 : ¬ (isTwo c ∧ A.s[d.e + 1]? = some (twinN c))) (h1 : ¬ (signN [c] = 1 ∨ 128 ≤ c.toNat)) (H : FrMz (.pointer (some ⟨A.b, 0, none⟩)) (sv A.s) (.int .i64 (d.e : Nat)) (.int .u8 (c.toNat : Nat)) (.int .i64 (d.e : Nat)) a) :
    (n5 Tryz.f105.body).wp Tryz.prog (bodyPost Tryz.prog Tryz.f105 (NxQ W A d X)) a W := by
  obtain ⟨u, rfl⟩ := H.form
  obtain ⟨Q, HQ⟩ : ∃ Q : Ending → World → Prop, Hid (NxQ W A d X = Q) := ⟨_, rfl⟩
  rw [HQ.out]
  have c2 : W.cell? ⟨A.b, 2, none⟩ = some (.int .i64 (d.e : Nat)) := h.c 2
  have c0 : W.cell? ⟨A.b, 0, none⟩ = some (.pointer (some ⟨A.bn, 0, none⟩)) := h.c 0
  have c3 : W.cell? ⟨A.b, 3, none⟩ = some (.int .i64 d.t.k) := h.c 3
  have c4 : W.cell? ⟨A.b, 4, none⟩ = some (sv d.t.s) := h.c 4
  have c5 : W.cell? ⟨A.b, 5, none⟩ = some (.int .u64 d.t.n) := h.c 5
  have c6 : W.cell? ⟨A.b, 6, none⟩ = some (.int .i64 d.t.p) := h.c 6
  have c7 : W.cell? ⟨A.b, 7, none⟩ = some (.int .i64 d.t.e) := h.c 7
  have f2 := h.fz 2
  have f3 := h.fz 3
  have f4 := h.fz 4
  have f5 := h.fz 5
  have f6 := h.fz 6
  have f7 := h.fz 7
  have lb := h.lt
  have HH := hid h
  have hle := h.pe
  have ls := h.ls
  obtain ⟨src, HSRC⟩ : ∃ src, Hid (A.s = src) := ⟨_, rfl⟩
  obtain ⟨e, HEE⟩ : ∃ e : Nat, Hid (d.e = e) := ⟨_, rfl⟩
  obtain ⟨⟨xk, xs, xn, xp, xe⟩, HXT⟩ : ∃ t, Hid (d.t = t) := ⟨_, rfl⟩
  rw [HXT.out] at c3 c4 c5 c6 c7
  dsimp only at c3 c4 c5 c6 c7
  rw [HEE.out] at c2 hle hc
  rw [HSRC.out] at hle ls hc
  rw [HSRC.out, HEE.out]
  have hsz : (⟨src.toArray⟩ : ByteArray).size = src.length := by simp [ByteArray.size]
  obtain ⟨LN, HLN⟩ : ∃ LN : Nat, Hid (src.length = LN) := ⟨_, rfl⟩
  rw [HLN.out] at hsz hle ls
  have hsz2 : src.toArray.size = LN := hsz
  have e31 : e ≤ 3000 := by omega
  rw [HSRC.out, HEE.out] at h2
  have hlt : e < LN := by have := (List.getElem?_eq_some_iff.1 hc).1; rw [HLN.out] at this; exact this
  have hX1 : X = (⟨signN [c], e, [], 0, 0⟩, e + 1) := by
    rw [hX, HSRC.out, HEE.out]
    unfold tokM
    rw [hc]
    dsimp only
    rw [if_neg (by rw [n1]; decide), if_neg (by rw [n2']; decide), if_neg n3', if_neg h2, if_neg h1]
  have HX1 := hid hX1
  have hcut : ∀ w, (Instr.sliceAt 9 (sv src) (some (.int .i64 (e : Int))) (some (.int .i64 ((e : Int) + 1))) none).run Tryz.prog w = .ok (sv [c]) w := fun w => by
    have := run_cut src (lo := (e : Int)) (hi := (e : Int) + 1) (i := e) (j := e + 1) rfl (by omega) (by omega) (by rw [HLN.out]; omega) w
    rw [show e + 1 - e = 1 by omega, drop_at hc] at this
    exact this
  obtain ⟨s1, s2, s3⟩ := sg_sym (x := [c]) (fun z => h1 (.inl z))
  have FIN : Hid (Q (.returned (.tuple #[])) ((((((W.setCell ⟨A.b, 2, none⟩ (.int .i64 ((e : Int) + 1))).setCell ⟨A.b, 3, none⟩ (.int .i64 4)).setCell ⟨A.b, 4, none⟩ (sv [c])).setCell ⟨A.b, 5, none⟩ (.int .u64 0)).setCell ⟨A.b, 6, none⟩ (.int .i64 (e : Nat))).setCell ⟨A.b, 7, none⟩ (.int .i64 0))) := by
    show Q _ _
    rw [← HQ.out]
    exact HH.out.fin (X := X) (e + 1) (by rw [HSRC.out, HLN.out]; omega) ⟨4, [c], 0, e, 0⟩ (by rw [HX1.out]) (by rw [HX1.out]; show tkc _ = _; rw [tk_sign s1, s3])
  have hcs : c = 43 ∨ c = 45 ∨ c = 42 ∨ c = 47 ∨ c = 37 ∨ c = 35 ∨ c = 60 ∨ c = 62 ∨ c = 61 ∨ c = 40 ∨ c = 41 ∨ c = 123 ∨ c = 125 ∨ c = 91 ∨ c = 93 ∨ c = 44 ∨ c = 46 := by
    obtain ⟨k, hk⟩ : ∃ k, signN [c] = k := ⟨_, rfl⟩
    rw [hk] at s1 s2 s3
    have : k = 24 ∨ k = 25 ∨ k = 26 ∨ k = 27 ∨ k = 28 ∨ k = 29 ∨ k = 30 ∨ k = 31 ∨ k = 32 ∨ k = 33 ∨ k = 34 ∨ k = 35 ∨ k = 36 ∨ k = 37 ∨ k = 38 ∨ k = 39 ∨ k = 40 ∨ k = 41 ∨ k = 42 ∨ k = 43 ∨ k = 44 ∨ k = 45 ∨ k = 46 := by omega
    clear hk s1 s2
    rcases this with rfl | rfl | rfl | rfl | rfl | rfl | rfl | rfl | rfl | rfl | rfl | rfl | rfl | rfl | rfl | rfl | rfl | rfl | rfl | rfl | rfl | rfl | rfl
    all_goals
      simp [symS, signL] at s3
      try simp [← s3]
  clear hc h H hX hX1 h2 h1 n1 n2' n3' s1 s2 s3
  obtain ⟨cc, hcc⟩ : ∃ cc, cc = n5 Tryz.f105.body := ⟨_, rfl⟩
  rw [← hcc]
  simp only [n5, n4, n3, n2, n1, nxT, zR, zL, Tryz.f105, Option.getD_some] at hcc
  subst hcc
  rcases hcs with rfl | rfl | rfl | rfl | rfl | rfl | rfl | rfl | rfl | rfl | rfl | rfl | rfl | rfl | rfl | rfl | rfl
  · replace hcut : ∀ w, (Instr.sliceAt 9 (sv src) (some (.int .i64 (e : Int))) (some (.int .i64 ((e : Int) + 1))) none).run Tryz.prog w = .ok (sv [43]) w := hcut
    replace FIN : Hid (Q (.returned (.tuple #[])) ((((((W.setCell ⟨A.b, 2, none⟩ (.int .i64 ((e : Int) + 1))).setCell ⟨A.b, 3, none⟩ (.int .i64 4)).setCell ⟨A.b, 4, none⟩ (sv [43])).setCell ⟨A.b, 5, none⟩ (.int .u64 0)).setCell ⟨A.b, 6, none⟩ (.int .i64 (e : Nat))).setCell ⟨A.b, 7, none⟩ (.int .i64 0))) := FIN
    rw [show ((43 : UInt8).toNat : Int) = 43 from rfl]
    go_wp2_with fail
    refine bodyPost_ret (results_none rfl _ _ _) rfl ?_
    exact FIN.out
  · replace hcut : ∀ w, (Instr.sliceAt 9 (sv src) (some (.int .i64 (e : Int))) (some (.int .i64 ((e : Int) + 1))) none).run Tryz.prog w = .ok (sv [45]) w := hcut
    replace FIN : Hid (Q (.returned (.tuple #[])) ((((((W.setCell ⟨A.b, 2, none⟩ (.int .i64 ((e : Int) + 1))).setCell ⟨A.b, 3, none⟩ (.int .i64 4)).setCell ⟨A.b, 4, none⟩ (sv [45])).setCell ⟨A.b, 5, none⟩ (.int .u64 0)).setCell ⟨A.b, 6, none⟩ (.int .i64 (e : Nat))).setCell ⟨A.b, 7, none⟩ (.int .i64 0))) := FIN
    rw [show ((45 : UInt8).toNat : Int) = 45 from rfl]
    go_wp2_with fail
    refine bodyPost_ret (results_none rfl _ _ _) rfl ?_
    exact FIN.out
  · replace hcut : ∀ w, (Instr.sliceAt 9 (sv src) (some (.int .i64 (e : Int))) (some (.int .i64 ((e : Int) + 1))) none).run Tryz.prog w = .ok (sv [42]) w := hcut
    replace FIN : Hid (Q (.returned (.tuple #[])) ((((((W.setCell ⟨A.b, 2, none⟩ (.int .i64 ((e : Int) + 1))).setCell ⟨A.b, 3, none⟩ (.int .i64 4)).setCell ⟨A.b, 4, none⟩ (sv [42])).setCell ⟨A.b, 5, none⟩ (.int .u64 0)).setCell ⟨A.b, 6, none⟩ (.int .i64 (e : Nat))).setCell ⟨A.b, 7, none⟩ (.int .i64 0))) := FIN
    rw [show ((42 : UInt8).toNat : Int) = 42 from rfl]
    go_wp2_with fail
    refine bodyPost_ret (results_none rfl _ _ _) rfl ?_
    exact FIN.out
  · replace hcut : ∀ w, (Instr.sliceAt 9 (sv src) (some (.int .i64 (e : Int))) (some (.int .i64 ((e : Int) + 1))) none).run Tryz.prog w = .ok (sv [47]) w := hcut
    replace FIN : Hid (Q (.returned (.tuple #[])) ((((((W.setCell ⟨A.b, 2, none⟩ (.int .i64 ((e : Int) + 1))).setCell ⟨A.b, 3, none⟩ (.int .i64 4)).setCell ⟨A.b, 4, none⟩ (sv [47])).setCell ⟨A.b, 5, none⟩ (.int .u64 0)).setCell ⟨A.b, 6, none⟩ (.int .i64 (e : Nat))).setCell ⟨A.b, 7, none⟩ (.int .i64 0))) := FIN
    rw [show ((47 : UInt8).toNat : Int) = 47 from rfl]
    go_wp2_with fail
    refine bodyPost_ret (results_none rfl _ _ _) rfl ?_
    exact FIN.out
  · replace hcut : ∀ w, (Instr.sliceAt 9 (sv src) (some (.int .i64 (e : Int))) (some (.int .i64 ((e : Int) + 1))) none).run Tryz.prog w = .ok (sv [37]) w := hcut
    replace FIN : Hid (Q (.returned (.tuple #[])) ((((((W.setCell ⟨A.b, 2, none⟩ (.int .i64 ((e : Int) + 1))).setCell ⟨A.b, 3, none⟩ (.int .i64 4)).setCell ⟨A.b, 4, none⟩ (sv [37])).setCell ⟨A.b, 5, none⟩ (.int .u64 0)).setCell ⟨A.b, 6, none⟩ (.int .i64 (e : Nat))).setCell ⟨A.b, 7, none⟩ (.int .i64 0))) := FIN
    rw [show ((37 : UInt8).toNat : Int) = 37 from rfl]
    go_wp2_with fail
    refine bodyPost_ret (results_none rfl _ _ _) rfl ?_
    exact FIN.out
  · replace hcut : ∀ w, (Instr.sliceAt 9 (sv src) (some (.int .i64 (e : Int))) (some (.int .i64 ((e : Int) + 1))) none).run Tryz.prog w = .ok (sv [35]) w := hcut
    replace FIN : Hid (Q (.returned (.tuple #[])) ((((((W.setCell ⟨A.b, 2, none⟩ (.int .i64 ((e : Int) + 1))).setCell ⟨A.b, 3, none⟩ (.int .i64 4)).setCell ⟨A.b, 4, none⟩ (sv [35])).setCell ⟨A.b, 5, none⟩ (.int .u64 0)).setCell ⟨A.b, 6, none⟩ (.int .i64 (e : Nat))).setCell ⟨A.b, 7, none⟩ (.int .i64 0))) := FIN
    rw [show ((35 : UInt8).toNat : Int) = 35 from rfl]
    go_wp2_with fail
    refine bodyPost_ret (results_none rfl _ _ _) rfl ?_
    exact FIN.out
  · replace hcut : ∀ w, (Instr.sliceAt 9 (sv src) (some (.int .i64 (e : Int))) (some (.int .i64 ((e : Int) + 1))) none).run Tryz.prog w = .ok (sv [60]) w := hcut
    replace FIN : Hid (Q (.returned (.tuple #[])) ((((((W.setCell ⟨A.b, 2, none⟩ (.int .i64 ((e : Int) + 1))).setCell ⟨A.b, 3, none⟩ (.int .i64 4)).setCell ⟨A.b, 4, none⟩ (sv [60])).setCell ⟨A.b, 5, none⟩ (.int .u64 0)).setCell ⟨A.b, 6, none⟩ (.int .i64 (e : Nat))).setCell ⟨A.b, 7, none⟩ (.int .i64 0))) := FIN
    rw [show ((60 : UInt8).toNat : Int) = 60 from rfl]
    go_wp2_with fail
    refine bodyPost_ret (results_none rfl _ _ _) rfl ?_
    exact FIN.out
  · replace hcut : ∀ w, (Instr.sliceAt 9 (sv src) (some (.int .i64 (e : Int))) (some (.int .i64 ((e : Int) + 1))) none).run Tryz.prog w = .ok (sv [62]) w := hcut
    replace FIN : Hid (Q (.returned (.tuple #[])) ((((((W.setCell ⟨A.b, 2, none⟩ (.int .i64 ((e : Int) + 1))).setCell ⟨A.b, 3, none⟩ (.int .i64 4)).setCell ⟨A.b, 4, none⟩ (sv [62])).setCell ⟨A.b, 5, none⟩ (.int .u64 0)).setCell ⟨A.b, 6, none⟩ (.int .i64 (e : Nat))).setCell ⟨A.b, 7, none⟩ (.int .i64 0))) := FIN
    rw [show ((62 : UInt8).toNat : Int) = 62 from rfl]
    go_wp2_with fail
    refine bodyPost_ret (results_none rfl _ _ _) rfl ?_
    exact FIN.out
  · replace hcut : ∀ w, (Instr.sliceAt 9 (sv src) (some (.int .i64 (e : Int))) (some (.int .i64 ((e : Int) + 1))) none).run Tryz.prog w = .ok (sv [61]) w := hcut
    replace FIN : Hid (Q (.returned (.tuple #[])) ((((((W.setCell ⟨A.b, 2, none⟩ (.int .i64 ((e : Int) + 1))).setCell ⟨A.b, 3, none⟩ (.int .i64 4)).setCell ⟨A.b, 4, none⟩ (sv [61])).setCell ⟨A.b, 5, none⟩ (.int .u64 0)).setCell ⟨A.b, 6, none⟩ (.int .i64 (e : Nat))).setCell ⟨A.b, 7, none⟩ (.int .i64 0))) := FIN
    rw [show ((61 : UInt8).toNat : Int) = 61 from rfl]
    go_wp2_with fail
    refine bodyPost_ret (results_none rfl _ _ _) rfl ?_
    exact FIN.out
  · replace hcut : ∀ w, (Instr.sliceAt 9 (sv src) (some (.int .i64 (e : Int))) (some (.int .i64 ((e : Int) + 1))) none).run Tryz.prog w = .ok (sv [40]) w := hcut
    replace FIN : Hid (Q (.returned (.tuple #[])) ((((((W.setCell ⟨A.b, 2, none⟩ (.int .i64 ((e : Int) + 1))).setCell ⟨A.b, 3, none⟩ (.int .i64 4)).setCell ⟨A.b, 4, none⟩ (sv [40])).setCell ⟨A.b, 5, none⟩ (.int .u64 0)).setCell ⟨A.b, 6, none⟩ (.int .i64 (e : Nat))).setCell ⟨A.b, 7, none⟩ (.int .i64 0))) := FIN
    rw [show ((40 : UInt8).toNat : Int) = 40 from rfl]
    go_wp2_with fail
    refine bodyPost_ret (results_none rfl _ _ _) rfl ?_
    exact FIN.out
  · replace hcut : ∀ w, (Instr.sliceAt 9 (sv src) (some (.int .i64 (e : Int))) (some (.int .i64 ((e : Int) + 1))) none).run Tryz.prog w = .ok (sv [41]) w := hcut
    replace FIN : Hid (Q (.returned (.tuple #[])) ((((((W.setCell ⟨A.b, 2, none⟩ (.int .i64 ((e : Int) + 1))).setCell ⟨A.b, 3, none⟩ (.int .i64 4)).setCell ⟨A.b, 4, none⟩ (sv [41])).setCell ⟨A.b, 5, none⟩ (.int .u64 0)).setCell ⟨A.b, 6, none⟩ (.int .i64 (e : Nat))).setCell ⟨A.b, 7, none⟩ (.int .i64 0))) := FIN
    rw [show ((41 : UInt8).toNat : Int) = 41 from rfl]
    go_wp2_with fail
    refine bodyPost_ret (results_none rfl _ _ _) rfl ?_
    exact FIN.out
  · replace hcut : ∀ w, (Instr.sliceAt 9 (sv src) (some (.int .i64 (e : Int))) (some (.int .i64 ((e : Int) + 1))) none).run Tryz.prog w = .ok (sv [123]) w := hcut
    replace FIN : Hid (Q (.returned (.tuple #[])) ((((((W.setCell ⟨A.b, 2, none⟩ (.int .i64 ((e : Int) + 1))).setCell ⟨A.b, 3, none⟩ (.int .i64 4)).setCell ⟨A.b, 4, none⟩ (sv [123])).setCell ⟨A.b, 5, none⟩ (.int .u64 0)).setCell ⟨A.b, 6, none⟩ (.int .i64 (e : Nat))).setCell ⟨A.b, 7, none⟩ (.int .i64 0))) := FIN
    rw [show ((123 : UInt8).toNat : Int) = 123 from rfl]
    go_wp2_with fail
    refine bodyPost_ret (results_none rfl _ _ _) rfl ?_
    exact FIN.out
  · replace hcut : ∀ w, (Instr.sliceAt 9 (sv src) (some (.int .i64 (e : Int))) (some (.int .i64 ((e : Int) + 1))) none).run Tryz.prog w = .ok (sv [125]) w := hcut
    replace FIN : Hid (Q (.returned (.tuple #[])) ((((((W.setCell ⟨A.b, 2, none⟩ (.int .i64 ((e : Int) + 1))).setCell ⟨A.b, 3, none⟩ (.int .i64 4)).setCell ⟨A.b, 4, none⟩ (sv [125])).setCell ⟨A.b, 5, none⟩ (.int .u64 0)).setCell ⟨A.b, 6, none⟩ (.int .i64 (e : Nat))).setCell ⟨A.b, 7, none⟩ (.int .i64 0))) := FIN
    rw [show ((125 : UInt8).toNat : Int) = 125 from rfl]
    go_wp2_with fail
    refine bodyPost_ret (results_none rfl _ _ _) rfl ?_
    exact FIN.out
  · replace hcut : ∀ w, (Instr.sliceAt 9 (sv src) (some (.int .i64 (e : Int))) (some (.int .i64 ((e : Int) + 1))) none).run Tryz.prog w = .ok (sv [91]) w := hcut
    replace FIN : Hid (Q (.returned (.tuple #[])) ((((((W.setCell ⟨A.b, 2, none⟩ (.int .i64 ((e : Int) + 1))).setCell ⟨A.b, 3, none⟩ (.int .i64 4)).setCell ⟨A.b, 4, none⟩ (sv [91])).setCell ⟨A.b, 5, none⟩ (.int .u64 0)).setCell ⟨A.b, 6, none⟩ (.int .i64 (e : Nat))).setCell ⟨A.b, 7, none⟩ (.int .i64 0))) := FIN
    rw [show ((91 : UInt8).toNat : Int) = 91 from rfl]
    go_wp2_with fail
    refine bodyPost_ret (results_none rfl _ _ _) rfl ?_
    exact FIN.out
  · replace hcut : ∀ w, (Instr.sliceAt 9 (sv src) (some (.int .i64 (e : Int))) (some (.int .i64 ((e : Int) + 1))) none).run Tryz.prog w = .ok (sv [93]) w := hcut
    replace FIN : Hid (Q (.returned (.tuple #[])) ((((((W.setCell ⟨A.b, 2, none⟩ (.int .i64 ((e : Int) + 1))).setCell ⟨A.b, 3, none⟩ (.int .i64 4)).setCell ⟨A.b, 4, none⟩ (sv [93])).setCell ⟨A.b, 5, none⟩ (.int .u64 0)).setCell ⟨A.b, 6, none⟩ (.int .i64 (e : Nat))).setCell ⟨A.b, 7, none⟩ (.int .i64 0))) := FIN
    rw [show ((93 : UInt8).toNat : Int) = 93 from rfl]
    go_wp2_with fail
    refine bodyPost_ret (results_none rfl _ _ _) rfl ?_
    exact FIN.out
  · replace hcut : ∀ w, (Instr.sliceAt 9 (sv src) (some (.int .i64 (e : Int))) (some (.int .i64 ((e : Int) + 1))) none).run Tryz.prog w = .ok (sv [44]) w := hcut
    replace FIN : Hid (Q (.returned (.tuple #[])) ((((((W.setCell ⟨A.b, 2, none⟩ (.int .i64 ((e : Int) + 1))).setCell ⟨A.b, 3, none⟩ (.int .i64 4)).setCell ⟨A.b, 4, none⟩ (sv [44])).setCell ⟨A.b, 5, none⟩ (.int .u64 0)).setCell ⟨A.b, 6, none⟩ (.int .i64 (e : Nat))).setCell ⟨A.b, 7, none⟩ (.int .i64 0))) := FIN
    rw [show ((44 : UInt8).toNat : Int) = 44 from rfl]
    go_wp2_with fail
    refine bodyPost_ret (results_none rfl _ _ _) rfl ?_
    exact FIN.out
  · replace hcut : ∀ w, (Instr.sliceAt 9 (sv src) (some (.int .i64 (e : Int))) (some (.int .i64 ((e : Int) + 1))) none).run Tryz.prog w = .ok (sv [46]) w := hcut
    replace FIN : Hid (Q (.returned (.tuple #[])) ((((((W.setCell ⟨A.b, 2, none⟩ (.int .i64 ((e : Int) + 1))).setCell ⟨A.b, 3, none⟩ (.int .i64 4)).setCell ⟨A.b, 4, none⟩ (sv [46])).setCell ⟨A.b, 5, none⟩ (.int .u64 0)).setCell ⟨A.b, 6, none⟩ (.int .i64 (e : Nat))).setCell ⟨A.b, 7, none⟩ (.int .i64 0))) := FIN
    rw [show ((46 : UInt8).toNat : Int) = 46 from rfl]
    go_wp2_with fail
    refine bodyPost_ret (results_none rfl _ _ _) rfl ?_
    exact FIN.out
theorem nx_bad (h : PzM W A d) (hX : X = tokM A.s d.e) (hc : A.s[d.e]? = some c) (n1 : isLet c = false) (n2' : isDig c = false) (n3' : c ≠ 34) (h2 : ¬ (isTwo c ∧ A.s[d.e + 1]? = some (twinN c))) (h1 : signN [c] = 1 ∨ 128 ≤ c.toNat) (H : FrMz (.pointer (some ⟨A.b, 0, none⟩)) (sv A.s) (.int .i64 (d.e : Nat)) (.int .u8 (c.toNat : Nat)) (.int .i64 (d.e : Nat)) a) :
    (n5 Tryz.f105.body).wp Tryz.prog (bodyPost Tryz.prog Tryz.f105 (NxQ W A d X)) a W := by
  obtain ⟨u, rfl⟩ := H.form
  obtain ⟨Q, HQ⟩ : ∃ Q : Ending → World → Prop, Hid (NxQ W A d X = Q) := ⟨_, rfl⟩
  rw [HQ.out]
  have c2 : W.cell? ⟨A.b, 2, none⟩ = some (.int .i64 (d.e : Nat)) := h.c 2
  have c0 : W.cell? ⟨A.b, 0, none⟩ = some (.pointer (some ⟨A.bn, 0, none⟩)) := h.c 0
  have c3 : W.cell? ⟨A.b, 3, none⟩ = some (.int .i64 d.t.k) := h.c 3
  have c4 : W.cell? ⟨A.b, 4, none⟩ = some (sv d.t.s) := h.c 4
  have c5 : W.cell? ⟨A.b, 5, none⟩ = some (.int .u64 d.t.n) := h.c 5
  have c6 : W.cell? ⟨A.b, 6, none⟩ = some (.int .i64 d.t.p) := h.c 6
  have c7 : W.cell? ⟨A.b, 7, none⟩ = some (.int .i64 d.t.e) := h.c 7
  have f2 := h.fz 2
  have f3 := h.fz 3
  have f4 := h.fz 4
  have f5 := h.fz 5
  have f6 := h.fz 6
  have f7 := h.fz 7
  have lb := h.lt
  have HH := hid h
  have hle := h.pe
  have ls := h.ls
  obtain ⟨src, HSRC⟩ : ∃ src, Hid (A.s = src) := ⟨_, rfl⟩
  obtain ⟨e, HEE⟩ : ∃ e : Nat, Hid (d.e = e) := ⟨_, rfl⟩
  obtain ⟨⟨xk, xs, xn, xp, xe⟩, HXT⟩ : ∃ t, Hid (d.t = t) := ⟨_, rfl⟩
  rw [HXT.out] at c3 c4 c5 c6 c7
  dsimp only at c3 c4 c5 c6 c7
  rw [HEE.out] at c2 hle hc
  rw [HSRC.out] at hle ls hc
  rw [HSRC.out, HEE.out]
  have hsz : (⟨src.toArray⟩ : ByteArray).size = src.length := by simp [ByteArray.size]
  obtain ⟨LN, HLN⟩ : ∃ LN : Nat, Hid (src.length = LN) := ⟨_, rfl⟩
  rw [HLN.out] at hsz hle ls
  have hsz2 : src.toArray.size = LN := hsz
  have e31 : e ≤ 3000 := by omega
  rw [HSRC.out, HEE.out] at h2
  have hlt : e < LN := by have := (List.getElem?_eq_some_iff.1 hc).1; rw [HLN.out] at this; exact this
  have hX1 : X = (badTok e 13, src.length) := by
    rw [hX, HSRC.out, HEE.out]
    unfold tokM
    rw [hc]
    dsimp only
    rw [if_neg (by rw [n1]; decide), if_neg (by rw [n2']; decide), if_neg n3', if_neg h2, if_pos h1]
  have HX1 := hid hX1
  have FIN : Hid (Q (.returned (.tuple #[])) ((((((W.setCell ⟨A.b, 2, none⟩ (.int .i64 (LN : Nat))).setCell ⟨A.b, 3, none⟩ (.int .i64 5)).setCell ⟨A.b, 4, none⟩ (sv [])).setCell ⟨A.b, 5, none⟩ (.int .u64 0)).setCell ⟨A.b, 6, none⟩ (.int .i64 (e : Nat))).setCell ⟨A.b, 7, none⟩ (.int .i64 13))) := by
    show Q _ _
    rw [← HQ.out]
    exact HH.out.fin (X := X) LN (by rw [HSRC.out, HLN.out]; exact Nat.le_refl _) ⟨5, [], 0, e, 13⟩ (by rw [HX1.out]; exact HLN.out) (by rw [HX1.out]; rfl)
  obtain ⟨cn, HCN⟩ : ∃ cn, Hid (c.toNat = cn) := ⟨_, rfl⟩
  have hne : ∀ k : UInt8, signN [k] ≠ 1 → k.toNat < 128 → c ≠ k := fun k a b z => by
    subst z
    rcases h1 with h1 | h1
    · exact a h1
    · omega
  have q0 : ((cn : Int) == 43) = false := u8b HCN.out 43 (hne 43 (by decide) (by decide))
  have q1 : ((cn : Int) == 45) = false := u8b HCN.out 45 (hne 45 (by decide) (by decide))
  have q2 : ((cn : Int) == 42) = false := u8b HCN.out 42 (hne 42 (by decide) (by decide))
  have q3 : ((cn : Int) == 47) = false := u8b HCN.out 47 (hne 47 (by decide) (by decide))
  have q4 : ((cn : Int) == 37) = false := u8b HCN.out 37 (hne 37 (by decide) (by decide))
  have q5 : ((cn : Int) == 35) = false := u8b HCN.out 35 (hne 35 (by decide) (by decide))
  have q6 : ((cn : Int) == 60) = false := u8b HCN.out 60 (hne 60 (by decide) (by decide))
  have q7 : ((cn : Int) == 62) = false := u8b HCN.out 62 (hne 62 (by decide) (by decide))
  have q8 : ((cn : Int) == 61) = false := u8b HCN.out 61 (hne 61 (by decide) (by decide))
  have q9 : ((cn : Int) == 40) = false := u8b HCN.out 40 (hne 40 (by decide) (by decide))
  have q10 : ((cn : Int) == 41) = false := u8b HCN.out 41 (hne 41 (by decide) (by decide))
  have q11 : ((cn : Int) == 123) = false := u8b HCN.out 123 (hne 123 (by decide) (by decide))
  have q12 : ((cn : Int) == 125) = false := u8b HCN.out 125 (hne 125 (by decide) (by decide))
  have q13 : ((cn : Int) == 91) = false := u8b HCN.out 91 (hne 91 (by decide) (by decide))
  have q14 : ((cn : Int) == 93) = false := u8b HCN.out 93 (hne 93 (by decide) (by decide))
  have q15 : ((cn : Int) == 44) = false := u8b HCN.out 44 (hne 44 (by decide) (by decide))
  have q16 : ((cn : Int) == 46) = false := u8b HCN.out 46 (hne 46 (by decide) (by decide))
  rw [HCN.out]
  clear hc h H hX hX1 h2 h1 n1 n2' n3' hne
  obtain ⟨cc, hcc⟩ : ∃ cc, cc = n5 Tryz.f105.body := ⟨_, rfl⟩
  rw [← hcc]
  simp only [n5, n4, n3, n2, n1, nxT, zR, zL, Tryz.f105, Option.getD_some] at hcc
  subst hcc
  go_wp2_with fail
  go_end0
  exact FIN.out
end
end Go.Proofs.Qxb6500574aGreatDoor
