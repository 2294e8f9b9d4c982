/-
  THE WALKS of syntaxm: next: strings.
-/
import Derived.Test.Qxb6500574aGreatDoorZQ11
namespace Go.Proofs.Qxb6500574aGreatDoor
open Go Go.RowKit
set_option linter.unusedVariables false
set_option linter.unusedSimpArgs false
section
variable {w W : World} {A : PzP} {d : PzD} {a : Act} {c : UInt8} {X : Tok × Nat}
set_option maxRecDepth 100000
set_option maxHeartbeats 2000000
theorem nx_str0 (h34 : c ≠ 34) {Q : Ending → World → Prop} (H : FrMz (.pointer (some ⟨A.b, 0, none⟩)) (sv A.s) (.int .i64 (d.e : Nat)) (.int .u8 (c.toNat : Nat)) (.int .i64 (d.e : Nat)) a)
    (hN : ∀ a : Act, FrMz (.pointer (some ⟨A.b, 0, none⟩)) (sv A.s) (.int .i64 (d.e : Nat)) (.int .u8 (c.toNat : Nat)) (.int .i64 (d.e : Nat)) a → (n4 Tryz.f105.body).wp Tryz.prog (bodyPost Tryz.prog Tryz.f105 Q) a W) : (n3 Tryz.f105.body).wp Tryz.prog (bodyPost Tryz.prog Tryz.f105 Q) a W := by
  obtain ⟨u, rfl⟩ := H.form
  obtain ⟨e, HEE⟩ : ∃ e : Nat, Hid (d.e = e) := ⟨_, rfl⟩
  rw [HEE.out] at hN ⊢
  obtain ⟨cn, HCN⟩ : ∃ cn, Hid (c.toNat = cn) := ⟨_, rfl⟩
  rw [HCN.out] at hN ⊢
  have b34 : ((cn : Int) == 34) = false := u8b HCN.out 34 h34
  obtain ⟨TL, HTL⟩ : ∃ TL, Hid (n4 Tryz.f105.body = TL) := ⟨_, rfl⟩
  have EQ : n3 Tryz.f105.body = Code.seq (zL (n3 Tryz.f105.body)) (n4 Tryz.f105.body) := by kernel_rfl
  rw [HTL.out] at EQ hN
  rw [EQ]
  clear EQ HTL
  obtain ⟨cc, hcc⟩ : ∃ cc, cc = zL (n3 Tryz.f105.body) := ⟨_, rfl⟩
  rw [← hcc]
  simp only [n5, n4, n3, n2, n1, nxT, zR, zL, Tryz.f105, Option.getD_some] at hcc
  subst hcc
  have HN := hid hN
  clear hN H h34
  go_wp2_with fail
  exact HN.out _ ⟨by kernel_rfl, by kernel_rfl, by kernel_rfl, by kernel_rfl, by kernel_rfl, by kernel_rfl, rfl⟩
theorem nx_str (h : PzM W A d) (hX : X = tokM A.s d.e) (hc : A.s[d.e]? = some c) (hk : c = 34) (H : FrMz (.pointer (some ⟨A.b, 0, none⟩)) (sv A.s) (.int .i64 (d.e : Nat)) (.int .u8 (c.toNat : Nat)) (.int .i64 (d.e : Nat)) a) :
    (n3 Tryz.f105.body).wp Tryz.prog (bodyPost Tryz.prog Tryz.f105 (NxQ W A d X)) a W := by
  obtain ⟨u, rfl⟩ := H.form
  obtain ⟨Q, HQ⟩ : ∃ Q : Ending → World → Prop, Hid (NxQ W A d X = Q) := ⟨_, rfl⟩
  rw [HQ.out]
  have c2 : W.cell? ⟨A.b, 2, none⟩ = some (.int .i64 (d.e : Nat)) := h.c 2
  have c0 : W.cell? ⟨A.b, 0, none⟩ = some (.pointer (some ⟨A.bn, 0, none⟩)) := h.c 0
  have c3 : W.cell? ⟨A.b, 3, none⟩ = some (.int .i64 d.t.k) := h.c 3
  have c4 : W.cell? ⟨A.b, 4, none⟩ = some (sv d.t.s) := h.c 4
  have c5 : W.cell? ⟨A.b, 5, none⟩ = some (.int .u64 d.t.n) := h.c 5
  have c6 : W.cell? ⟨A.b, 6, none⟩ = some (.int .i64 d.t.p) := h.c 6
  have c7 : W.cell? ⟨A.b, 7, none⟩ = some (.int .i64 d.t.e) := h.c 7
  have f2 := h.fz 2
  have f3 := h.fz 3
  have f4 := h.fz 4
  have f5 := h.fz 5
  have f6 := h.fz 6
  have f7 := h.fz 7
  have lb := h.lt
  have HH := hid h
  have hle := h.pe
  have ls := h.ls
  obtain ⟨src, HSRC⟩ : ∃ src, Hid (A.s = src) := ⟨_, rfl⟩
  obtain ⟨e, HEE⟩ : ∃ e : Nat, Hid (d.e = e) := ⟨_, rfl⟩
  obtain ⟨⟨xk, xs, xn, xp, xe⟩, HXT⟩ : ∃ t, Hid (d.t = t) := ⟨_, rfl⟩
  rw [HXT.out] at c3 c4 c5 c6 c7
  dsimp only at c3 c4 c5 c6 c7
  rw [HEE.out] at c2 hle hc
  rw [HSRC.out] at hle ls hc
  rw [HSRC.out, HEE.out]
  have hsz : (⟨src.toArray⟩ : ByteArray).size = src.length := by simp [ByteArray.size]
  obtain ⟨LN, HLN⟩ : ∃ LN : Nat, Hid (src.length = LN) := ⟨_, rfl⟩
  rw [HLN.out] at hsz hle ls
  have hsz2 : src.toArray.size = LN := hsz
  have e31 : e ≤ 3000 := by omega
  have hlt : e < LN := by have := (List.getElem?_eq_some_iff.1 hc).1; rw [HLN.out] at this; exact this
  obtain ⟨K, HK⟩ : ∃ K, Hid (span (fun x => x != 34 && x != 10) (src.drop (e + 1)) = K) := ⟨_, rfl⟩
  have hX1 : X = (if src[e + 1 + K]? = some 34 ∧ K ≤ 40 then (⟨4, e, (src.drop (e + 1)).take K, 0, 0⟩, e + K + 2) else (badTok e 14, src.length)) := by
    rw [hX, HSRC.out, HEE.out]
    unfold tokM
    rw [hc]
    dsimp only
    rw [if_neg (by rw [hk]; decide), if_neg (by rw [hk]; decide), if_pos hk, HK.out]
  have HX1 := hid hX1
  subst hk
  have HI : Hid (NxW W src (fun x => x != 34 && x != 10) (e + 1) K LN (LN + 1) (.int .i64 ((e : Int) + 1)) W) := ⟨0, e + 1, by congr 1, rfl, rfl, by omega, by rw [HK.out, Nat.zero_add], by omega⟩
  obtain ⟨n0, HN0⟩ : ∃ n0, Hid (LN + 1 = n0) := ⟨_, rfl⟩
  rw [HN0.out] at HI
  obtain ⟨e', HE'⟩ : ∃ e', Hid (e + 1 = e') := ⟨_, rfl⟩
  rw [HE'.out] at HI
  rw [show ((34 : UInt8).toNat : Int) = 34 from rfl]
  clear hc h H hX hX1
  obtain ⟨TL, HTL⟩ : ∃ TL, Hid (n4 Tryz.f105.body = TL) := ⟨_, rfl⟩
  have EQ : n3 Tryz.f105.body = Code.seq (zL (n3 Tryz.f105.body)) (n4 Tryz.f105.body) := by kernel_rfl
  rw [HTL.out] at EQ
  rw [EQ]
  clear EQ HTL
  obtain ⟨cc, hcc⟩ : ∃ cc, cc = zL (n3 Tryz.f105.body) := ⟨_, rfl⟩
  rw [← hcc]
  simp only [n5, n4, n3, n2, n1, nxT, zR, zL, Tryz.f105, Option.getD_some] at hcc
  subst hcc
  go_wp2_with fail
  go_loopg [6] n0 (fun m v6 wr => Hid (NxW W src (fun x => x != 34 && x != 10) e' K LN m v6 wr))
  case atStart => exact HI
  case round =>
    obtain ⟨k, j, rfl, hwr, hkj, hjl, hK, hlt2⟩ := hrel.out
    rw [hwr]
    have j31 : j ≤ 3000 := by omega
    have HKJ := hid hkj
    have HKK := hid hK
    have HL2 := hid hlt2
    clear hrel hkj hK hlt2 hwr
    by_cases hj : j < LN
    · obtain ⟨c', hc'⟩ : ∃ c, src[j]? = some c := ⟨src[j]'(by rw [HLN.out]; exact hj), by simp⟩
      have hix := fun w => run_index_str src j j rfl hc' w
      obtain ⟨cn', HCN'⟩ : ∃ cn, Hid (c'.toNat = cn) := ⟨_, rfl⟩
      rw [HCN'.out] at hix
      have hK := HKK.out
      rw [drop_at hc', span_cons] at hK
      by_cases h34 : c' = 34
      · rw [if_neg (by rw [h34]; decide)] at hK
        have hcn : cn' = 34 := by rw [← HCN'.out, h34]; rfl
        subst hcn
        have hkK : k = K := by omega
        subst hkK
        have hq : src[e + 1 + k]? = some 34 := by rw [show e + 1 + k = j by have := HKJ.out; have := HE'.out; omega, hc', h34]
        have esub : (j : Int) - (e : Int) - 1 = (k : Int) := by have := HKJ.out; have := HE'.out; omega
        by_cases h40 : k ≤ 40
        · have b40 : ¬ (40 : Int) < (k : Int) := by omega
          obtain ⟨x, HXX⟩ : ∃ x, Hid ((src.drop (e + 1)).take k = x) := ⟨_, rfl⟩
          have hcut : ∀ w, (Instr.sliceAt 9 (sv src) (some (.int .i64 ((e : Int) + 1))) (some (.int .i64 (j : Int))) none).run Tryz.prog w = .ok (sv x) w := fun w => by
            have := run_cut src (lo := (e : Int) + 1) (hi := (j : Int)) (i := e + 1) (j := j) (by omega) rfl (by have := HKJ.out; have := HE'.out; omega) (by rw [HLN.out]; exact hjl) w
            rw [show j - (e + 1) = k by have := HKJ.out; have := HE'.out; omega, HXX.out] at this
            exact this
          have FIN : Hid (Q (.returned (.tuple #[])) ((((((W.setCell ⟨A.b, 2, none⟩ (.int .i64 ((j : Int) + 1))).setCell ⟨A.b, 3, none⟩ (.int .i64 3)).setCell ⟨A.b, 4, none⟩ (sv x)).setCell ⟨A.b, 5, none⟩ (.int .u64 0)).setCell ⟨A.b, 6, none⟩ (.int .i64 (e : Nat))).setCell ⟨A.b, 7, none⟩ (.int .i64 0))) := by
            show Q _ _
            rw [← HQ.out]
            exact HH.out.fin (X := X) (j + 1) (by rw [HSRC.out, HLN.out]; omega) ⟨3, x, 0, e, 0⟩ (by rw [HX1.out, if_pos ⟨hq, h40⟩]; show e + k + 2 = j + 1; have := HKJ.out; have := HE'.out; omega) (by rw [HX1.out, if_pos ⟨hq, h40⟩, HXX.out]; rfl)
          clear hK hc' h34 hq
          go_wp2_with fail
          refine bodyPost_ret (results_none rfl _ _ _) rfl ?_
          exact FIN.out
        · have b40 : (40 : Int) < (k : Int) := by omega
          have hno : ¬ (src[e + 1 + k]? = some 34 ∧ k ≤ 40) := fun z => h40 z.2
          have FIN : Hid (Q (.returned (.tuple #[])) ((((((W.setCell ⟨A.b, 2, none⟩ (.int .i64 (LN : Nat))).setCell ⟨A.b, 3, none⟩ (.int .i64 5)).setCell ⟨A.b, 4, none⟩ (sv [])).setCell ⟨A.b, 5, none⟩ (.int .u64 0)).setCell ⟨A.b, 6, none⟩ (.int .i64 (e : Nat))).setCell ⟨A.b, 7, none⟩ (.int .i64 14))) := by
            show Q _ _
            rw [← HQ.out]
            exact HH.out.fin (X := X) LN (by rw [HSRC.out, HLN.out]; exact Nat.le_refl _) ⟨5, [], 0, e, 14⟩ (by rw [HX1.out, if_neg hno]; exact HLN.out) (by rw [HX1.out, if_neg hno]; rfl)
          clear hK hc' h34 hq hno
          go_wp2_with fail
          refine bodyPost_ret (results_none rfl _ _ _) rfl ?_
          exact FIN.out
      · have b34 : ((cn' : Int) != 34) = true := by
          have := u8b HCN'.out 34 h34
          rw [bne, show ((34 : UInt8).toNat : Int) = 34 from rfl] at *
          rw [this]
          rfl
        by_cases h10 : c' = 10
        · rw [if_neg (by rw [h10]; decide)] at hK
          have hcn : cn' = 10 := by rw [← HCN'.out, h10]; rfl
          subst hcn
          have hkK : k = K := by omega
          subst hkK
          have hno : ¬ (src[e + 1 + k]? = some 34 ∧ k ≤ 40) := fun z => by
            rw [show e + 1 + k = j by have := HKJ.out; have := HE'.out; omega, hc', h10] at z
            cases z.1
          have FIN : Hid (Q (.returned (.tuple #[])) ((((((W.setCell ⟨A.b, 2, none⟩ (.int .i64 (LN : Nat))).setCell ⟨A.b, 3, none⟩ (.int .i64 5)).setCell ⟨A.b, 4, none⟩ (sv [])).setCell ⟨A.b, 5, none⟩ (.int .u64 0)).setCell ⟨A.b, 6, none⟩ (.int .i64 (e : Nat))).setCell ⟨A.b, 7, none⟩ (.int .i64 14))) := by
            show Q _ _
            rw [← HQ.out]
            exact HH.out.fin (X := X) LN (by rw [HSRC.out, HLN.out]; exact Nat.le_refl _) ⟨5, [], 0, e, 14⟩ (by rw [HX1.out, if_neg hno]; exact HLN.out) (by rw [HX1.out, if_neg hno]; rfl)
          clear hK hc' h34 h10 hno
          go_wp2_with fail
          refine bodyPost_ret (results_none rfl _ _ _) rfl ?_
          exact FIN.out
        · have b10 : ((cn' : Int) != 10) = true := by
            have := u8b HCN'.out 10 h10
            rw [bne, show ((10 : UInt8).toNat : Int) = 10 from rfl] at *
            rw [this]
            rfl
          rw [if_pos (by simp [h34, h10])] at hK
          obtain ⟨g2, rfl⟩ : ∃ g2, gk = g2 + 1 := ⟨gk - 1, by have := HL2.out; omega⟩
          have HQ2 : Hid (NxW W src (fun x => x != 34 && x != 10) e' K LN g2 (.int .i64 ((j : Int) + 1)) W) := ⟨k + 1, j + 1, rfl, rfl, by have := HKJ.out; omega, by omega, by omega, by have := HL2.out; omega⟩
          clear hK hc' h34 h10
          go_wp2_with fail
          go_roundg g2
          case measure => omega
          case rel => exact HQ2
    · have hK := HKK.out
      rw [List.drop_eq_nil_of_le (by rw [HLN.out]; omega)] at hK
      have hkK : k = K := by have : span (fun x => x != 34 && x != 10) [] = 0 := rfl; omega
      subst hkK
      have hno : ¬ (src[e + 1 + k]? = some 34 ∧ k ≤ 40) := fun z => by
        rw [List.getElem?_eq_none (by rw [HLN.out]; have := HKJ.out; have := HE'.out; omega)] at z
        cases z.1
      have FIN : Hid (Q (.returned (.tuple #[])) ((((((W.setCell ⟨A.b, 2, none⟩ (.int .i64 (LN : Nat))).setCell ⟨A.b, 3, none⟩ (.int .i64 5)).setCell ⟨A.b, 4, none⟩ (sv [])).setCell ⟨A.b, 5, none⟩ (.int .u64 0)).setCell ⟨A.b, 6, none⟩ (.int .i64 (e : Nat))).setCell ⟨A.b, 7, none⟩ (.int .i64 14))) := by
        show Q _ _
        rw [← HQ.out]
        exact HH.out.fin (X := X) LN (by rw [HSRC.out, HLN.out]; exact Nat.le_refl _) ⟨5, [], 0, e, 14⟩ (by rw [HX1.out, if_neg hno]; exact HLN.out) (by rw [HX1.out, if_neg hno]; rfl)
      clear hK hno
      go_wp2_with fail
      refine bodyPost_ret (results_none rfl _ _ _) rfl ?_
      exact FIN.out
end
end Go.Proofs.Qxb6500574aGreatDoor
