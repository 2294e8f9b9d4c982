/-
  THE WALKS of syntaxm: next: words.
-/
import Derived.Test.Qxb6500574aGreatDoorZQ8
namespace Go.Proofs.Qxb6500574aGreatDoor
open Go Go.RowKit
set_option linter.unusedVariables false
set_option linter.unusedSimpArgs false
section
variable {w W : World} {A : PzP} {d : PzD} {a : Act} {c : UInt8} {X : Tok × Nat}
set_option maxRecDepth 100000
set_option maxHeartbeats 2000000
theorem nx_let0 (h : PzM W A d) (hc : A.s[d.e]? = some c) (hk : isLet c = false) {Q : Ending → World → Prop} (H : FrMz (.pointer (some ⟨A.b, 0, none⟩)) (sv A.s) (.int .i64 (d.e : Nat)) (.int .u8 (c.toNat : Nat)) (.int .i64 (d.e : Nat)) a)
    (hN : ∀ a : Act, FrMz (.pointer (some ⟨A.b, 0, none⟩)) (sv A.s) (.int .i64 (d.e : Nat)) (.int .u8 (c.toNat : Nat)) (.int .i64 (d.e : Nat)) a → (n2 Tryz.f105.body).wp Tryz.prog (bodyPost Tryz.prog Tryz.f105 Q) a W) : (n1 Tryz.f105.body).wp Tryz.prog (bodyPost Tryz.prog Tryz.f105 Q) a W := by
  obtain ⟨u, rfl⟩ := H.form
  obtain ⟨e, HEE⟩ : ∃ e : Nat, Hid (d.e = e) := ⟨_, rfl⟩
  rw [HEE.out] at hN ⊢
  have CL : Hid (∀ w, Calls Tryz.prog 178 #[.int .u8 (c.toNat : Nat)] w fun e w' => e = .returned (.bool false) ∧ w' = w) := fun w => by have := letter_z (w := w) c; rw [hk] at this; exact this
  obtain ⟨cn, HCN⟩ : ∃ cn, Hid (c.toNat = cn) := ⟨_, rfl⟩
  rw [HCN.out] at hN CL ⊢
  obtain ⟨TL, HTL⟩ : ∃ TL, Hid (n2 Tryz.f105.body = TL) := ⟨_, rfl⟩
  have EQ : n1 Tryz.f105.body = Code.seq (zL (n1 Tryz.f105.body)) (n2 Tryz.f105.body) := by kernel_rfl
  rw [HTL.out] at EQ hN
  rw [EQ]
  clear EQ HTL
  obtain ⟨cc, hcc⟩ : ∃ cc, cc = zL (n1 Tryz.f105.body) := ⟨_, rfl⟩
  rw [← hcc]
  simp only [n5, n4, n3, n2, n1, nxT, zR, zL, Tryz.f105, Option.getD_some] at hcc
  subst hcc
  have HN := hid hN
  clear hN h H hc hk
  go_wp2_with fail
  refine (CL.out _).mono ?_
  rintro e1 w1 ⟨rfl, hw⟩
  rw [hw]
  go_wp2_with fail
  exact HN.out _ ⟨by kernel_rfl, by kernel_rfl, by kernel_rfl, by kernel_rfl, by kernel_rfl, by kernel_rfl, rfl⟩
theorem nx_dig0 (h : PzM W A d) (hc : A.s[d.e]? = some c) (hk : isDig c = false) {Q : Ending → World → Prop} (H : FrMz (.pointer (some ⟨A.b, 0, none⟩)) (sv A.s) (.int .i64 (d.e : Nat)) (.int .u8 (c.toNat : Nat)) (.int .i64 (d.e : Nat)) a)
    (hN : ∀ a : Act, FrMz (.pointer (some ⟨A.b, 0, none⟩)) (sv A.s) (.int .i64 (d.e : Nat)) (.int .u8 (c.toNat : Nat)) (.int .i64 (d.e : Nat)) a → (n3 Tryz.f105.body).wp Tryz.prog (bodyPost Tryz.prog Tryz.f105 Q) a W) : (n2 Tryz.f105.body).wp Tryz.prog (bodyPost Tryz.prog Tryz.f105 Q) a W := by
  obtain ⟨u, rfl⟩ := H.form
  obtain ⟨e, HEE⟩ : ∃ e : Nat, Hid (d.e = e) := ⟨_, rfl⟩
  rw [HEE.out] at hN ⊢
  have CL : Hid (∀ w, Calls Tryz.prog 181 #[.int .u8 (c.toNat : Nat)] w fun e w' => e = .returned (.bool false) ∧ w' = w) := fun w => by have := digit_z (w := w) c; rw [hk] at this; exact this
  obtain ⟨cn, HCN⟩ : ∃ cn, Hid (c.toNat = cn) := ⟨_, rfl⟩
  rw [HCN.out] at hN CL ⊢
  obtain ⟨TL, HTL⟩ : ∃ TL, Hid (n3 Tryz.f105.body = TL) := ⟨_, rfl⟩
  have EQ : n2 Tryz.f105.body = Code.seq (zL (n2 Tryz.f105.body)) (n3 Tryz.f105.body) := by kernel_rfl
  rw [HTL.out] at EQ hN
  rw [EQ]
  clear EQ HTL
  obtain ⟨cc, hcc⟩ : ∃ cc, cc = zL (n2 Tryz.f105.body) := ⟨_, rfl⟩
  rw [← hcc]
  simp only [n5, n4, n3, n2, n1, nxT, zR, zL, Tryz.f105, Option.getD_some] at hcc
  subst hcc
  have HN := hid hN
  clear hN h H hc hk
  go_wp2_with fail
  refine (CL.out _).mono ?_
  rintro e1 w1 ⟨rfl, hw⟩
  rw [hw]
  go_wp2_with fail
  exact HN.out _ ⟨by kernel_rfl, by kernel_rfl, by kernel_rfl, by kernel_rfl, by kernel_rfl, by kernel_rfl, rfl⟩
/-- within a word -/
def NxW (W : World) (src : Bs) (p : UInt8 → Bool) (e K LN m : Nat) (v : Value) (wr : World) : Prop := ∃ k j : Nat, v = .int .i64 (j : Nat) ∧ wr = W ∧ e + k = j ∧ j ≤ LN ∧ K = k + span p (src.drop j) ∧ LN - j < m
theorem nx_wlong (h : PzM W A d) (hX : X = tokM A.s d.e) (hc : A.s[d.e]? = some c) (hk : isLet c = true) (hb : ¬ span isWrd (A.s.drop d.e) ≤ 40) (H : FrMz (.pointer (some ⟨A.b, 0, none⟩)) (sv A.s) (.int .i64 (d.e : Nat)) (.int .u8 (c.toNat : Nat)) (.int .i64 (d.e : Nat)) a) :
    (n1 Tryz.f105.body).wp Tryz.prog (bodyPost Tryz.prog Tryz.f105 (NxQ W A d X)) a W := by
  obtain ⟨u, rfl⟩ := H.form
  obtain ⟨Q, HQ⟩ : ∃ Q : Ending → World → Prop, Hid (NxQ W A d X = Q) := ⟨_, rfl⟩
  rw [HQ.out]
  have c2 : W.cell? ⟨A.b, 2, none⟩ = some (.int .i64 (d.e : Nat)) := h.c 2
  have c0 : W.cell? ⟨A.b, 0, none⟩ = some (.pointer (some ⟨A.bn, 0, none⟩)) := h.c 0
  have c3 : W.cell? ⟨A.b, 3, none⟩ = some (.int .i64 d.t.k) := h.c 3
  have c4 : W.cell? ⟨A.b, 4, none⟩ = some (sv d.t.s) := h.c 4
  have c5 : W.cell? ⟨A.b, 5, none⟩ = some (.int .u64 d.t.n) := h.c 5
  have c6 : W.cell? ⟨A.b, 6, none⟩ = some (.int .i64 d.t.p) := h.c 6
  have c7 : W.cell? ⟨A.b, 7, none⟩ = some (.int .i64 d.t.e) := h.c 7
  have f2 := h.fz 2
  have f3 := h.fz 3
  have f4 := h.fz 4
  have f5 := h.fz 5
  have f6 := h.fz 6
  have f7 := h.fz 7
  have lb := h.lt
  have HH := hid h
  have hle := h.pe
  have ls := h.ls
  obtain ⟨src, HSRC⟩ : ∃ src, Hid (A.s = src) := ⟨_, rfl⟩
  obtain ⟨e, HEE⟩ : ∃ e : Nat, Hid (d.e = e) := ⟨_, rfl⟩
  obtain ⟨⟨xk, xs, xn, xp, xe⟩, HXT⟩ : ∃ t, Hid (d.t = t) := ⟨_, rfl⟩
  rw [HXT.out] at c3 c4 c5 c6 c7
  dsimp only at c3 c4 c5 c6 c7
  rw [HEE.out] at c2 hle hc
  rw [HSRC.out] at hle ls hc
  rw [HSRC.out, HEE.out]
  have hsz : (⟨src.toArray⟩ : ByteArray).size = src.length := by simp [ByteArray.size]
  obtain ⟨LN, HLN⟩ : ∃ LN : Nat, Hid (src.length = LN) := ⟨_, rfl⟩
  rw [HLN.out] at hsz hle ls
  have hsz2 : src.toArray.size = LN := hsz
  have e31 : e ≤ 3000 := by omega
  obtain ⟨cn, HCN⟩ : ∃ cn, Hid (c.toNat = cn) := ⟨_, rfl⟩
  rw [HCN.out]
  have hlt : e < LN := by have := (List.getElem?_eq_some_iff.1 hc).1; rw [HLN.out] at this; exact this
  have CL : Hid (∀ w, Calls Tryz.prog 178 #[.int .u8 (cn : Nat)] w fun e w' => e = .returned (.bool true) ∧ w' = w) := fun w => by
    have := letter_z (w := w) c
    rw [hk, HCN.out] at this
    exact this
  obtain ⟨K, HK⟩ : ∃ K, Hid (span isWrd (src.drop e) = K) := ⟨_, rfl⟩
  have hX1 : X = (if K ≤ 40 then ⟨keywordN ((src.drop e).take K), e, (src.drop e).take K, 0, 0⟩ else badTok e 14, e + K) := by
    rw [hX, HSRC.out, HEE.out]
    unfold tokM
    rw [hc]
    dsimp only
    rw [if_pos hk, HK.out]
  have HX1 := hid hX1
  clear hX1
  have HBIG : Hid (¬ K ≤ 40) := by show ¬ _; rw [← HK.out, ← HSRC.out, ← HEE.out]; exact hb
  clear hb
  have HI : Hid (NxW W src isWrd e K LN (LN + 1) (.int .i64 (e : Nat)) W) := ⟨0, e, rfl, rfl, rfl, hle, by rw [← HK.out, Nat.zero_add], by omega⟩
  obtain ⟨n0, HN0⟩ : ∃ n0, Hid (LN + 1 = n0) := ⟨_, rfl⟩
  rw [HN0.out] at HI
  clear hc h H hk hX
  obtain ⟨TL, HTL⟩ : ∃ TL, Hid (n2 Tryz.f105.body = TL) := ⟨_, rfl⟩
  have EQ : n1 Tryz.f105.body = Code.seq (zL (n1 Tryz.f105.body)) (n2 Tryz.f105.body) := by kernel_rfl
  rw [HTL.out] at EQ
  rw [EQ]
  clear EQ HTL
  obtain ⟨cc, hcc⟩ : ∃ cc, cc = zL (n1 Tryz.f105.body) := ⟨_, rfl⟩
  rw [← hcc]
  simp only [n5, n4, n3, n2, n1, nxT, zR, zL, Tryz.f105, Option.getD_some] at hcc
  subst hcc
  go_wp2_with fail
  refine (CL.out _).mono ?_
  rintro e1 w1 ⟨rfl, hw⟩
  rw [hw]
  clear hw w1 CL
  go_wp2_with fail
  go_loopg [6] n0 (fun m v6 wr => Hid (NxW W src isWrd e K LN m v6 wr))
  case atStart => exact HI
  case round =>
    obtain ⟨k, j, rfl, hwr, hkj, hjl, hK, hlt2⟩ := hrel.out
    rw [hwr]
    have j31 : j ≤ 3000 := by omega
    have HKJ := hid hkj
    have HKK := hid hK
    have HL2 := hid hlt2
    clear hrel hkj hK hlt2 hwr
    by_cases hj : j < LN
    · obtain ⟨c', hc'⟩ : ∃ c, src[j]? = some c := ⟨src[j]'(by rw [HLN.out]; exact hj), by simp⟩
      have hix := fun w => run_index_str src j j rfl hc' w
      have CW : Hid (∀ w, Calls Tryz.prog 179 #[.int .u8 (c'.toNat : Nat)] w fun e w' => e = .returned (.bool (isWrd c')) ∧ w' = w) := fun w => word_z c'
      obtain ⟨cn', HCN'⟩ : ∃ cn, Hid (c'.toNat = cn) := ⟨_, rfl⟩
      rw [HCN'.out] at hix CW
      have hK := HKK.out
      rw [drop_at hc', span_cons] at hK
      cases hw : isWrd c' with
      | true =>
        rw [hw] at hK CW
        rw [if_pos rfl] at hK
        obtain ⟨g2, rfl⟩ : ∃ g2, gk = g2 + 1 := ⟨gk - 1, by have := HL2.out; omega⟩
        have HQ2 : Hid (NxW W src isWrd e K LN g2 (.int .i64 ((j : Int) + 1)) W) := ⟨k + 1, j + 1, rfl, rfl, by have := HKJ.out; omega, by omega, by omega, by have := HL2.out; omega⟩
        clear hK hc' hw
        go_wp2_with fail
        refine (CW.out _).mono ?_
        rintro e1 w1 ⟨rfl, hw⟩
        rw [hw]
        clear hw w1 CW
        go_wp2_with fail
        go_roundg g2
        case measure => omega
        case rel => exact HQ2
      | false =>
        rw [hw] at hK CW
        rw [if_neg (by decide)] at hK
        have hkK : k = K := by omega
        clear hK hc' hw
        subst hkK
        have esub : (j : Int) - (e : Int) = (k : Int) := by have := HKJ.out; omega
        have esub2 : j - e = k := by have := HKJ.out; omega
        have bgt : (40 : Int) < (k : Int) := by have := HBIG.out; omega
        have FIN : Hid (Q (.returned (.tuple #[])) ((((((W.setCell ⟨A.b, 2, none⟩ (.int .i64 (j : Nat))).setCell ⟨A.b, 3, none⟩ (.int .i64 5)).setCell ⟨A.b, 4, none⟩ (sv [])).setCell ⟨A.b, 5, none⟩ (.int .u64 0)).setCell ⟨A.b, 6, none⟩ (.int .i64 (e : Nat))).setCell ⟨A.b, 7, none⟩ (.int .i64 14))) := by
          show Q _ _
          rw [← HQ.out]
          exact HH.out.fin (X := X) j (by rw [HSRC.out, HLN.out]; exact hjl) ⟨5, [], 0, e, 14⟩ (by rw [HX1.out]; exact HKJ.out) (by rw [HX1.out, if_neg (by have := HBIG.out; omega)]; rfl)
        go_wp2_with fail
        refine (CW.out _).mono ?_
        rintro e1 w1 ⟨rfl, hw⟩
        rw [hw]
        clear hw w1 CW
        go_wp2_with fail
        refine bodyPost_ret (results_none rfl _ _ _) rfl ?_
        exact FIN.out
    · have hK := HKK.out
      rw [List.drop_eq_nil_of_le (by rw [HLN.out]; omega)] at hK
      have hkK : k = K := by have : span isWrd [] = 0 := rfl; omega
      clear hK
      subst hkK
      have esub : (j : Int) - (e : Int) = (k : Int) := by have := HKJ.out; omega
      have esub2 : j - e = k := by have := HKJ.out; omega
      have bgt : (40 : Int) < (k : Int) := by have := HBIG.out; omega
      have FIN : Hid (Q (.returned (.tuple #[])) ((((((W.setCell ⟨A.b, 2, none⟩ (.int .i64 (j : Nat))).setCell ⟨A.b, 3, none⟩ (.int .i64 5)).setCell ⟨A.b, 4, none⟩ (sv [])).setCell ⟨A.b, 5, none⟩ (.int .u64 0)).setCell ⟨A.b, 6, none⟩ (.int .i64 (e : Nat))).setCell ⟨A.b, 7, none⟩ (.int .i64 14))) := by
        show Q _ _
        rw [← HQ.out]
        exact HH.out.fin (X := X) j (by rw [HSRC.out, HLN.out]; exact hjl) ⟨5, [], 0, e, 14⟩ (by rw [HX1.out]; exact HKJ.out) (by rw [HX1.out, if_neg (by have := HBIG.out; omega)]; rfl)
      go_wp2_with fail
      refine bodyPost_ret (results_none rfl _ _ _) rfl ?_
      exact FIN.out
theorem nx_wkey (h : PzM W A d) (hX : X = tokM A.s d.e) (hc : A.s[d.e]? = some c) (hk : isLet c = true) (hb : span isWrd (A.s.drop d.e) ≤ 40) (hkw : keywordN ((A.s.drop d.e).take (span isWrd (A.s.drop d.e))) ≠ 2) (H : FrMz (.pointer (some ⟨A.b, 0, none⟩)) (sv A.s) (.int .i64 (d.e : Nat)) (.int .u8 (c.toNat : Nat)) (.int .i64 (d.e : Nat)) a) :
    (n1 Tryz.f105.body).wp Tryz.prog (bodyPost Tryz.prog Tryz.f105 (NxQ W A d X)) a W := by
  obtain ⟨u, rfl⟩ := H.form
  obtain ⟨Q, HQ⟩ : ∃ Q : Ending → World → Prop, Hid (NxQ W A d X = Q) := ⟨_, rfl⟩
  rw [HQ.out]
  have c2 : W.cell? ⟨A.b, 2, none⟩ = some (.int .i64 (d.e : Nat)) := h.c 2
  have c0 : W.cell? ⟨A.b, 0, none⟩ = some (.pointer (some ⟨A.bn, 0, none⟩)) := h.c 0
  have c3 : W.cell? ⟨A.b, 3, none⟩ = some (.int .i64 d.t.k) := h.c 3
  have c4 : W.cell? ⟨A.b, 4, none⟩ = some (sv d.t.s) := h.c 4
  have c5 : W.cell? ⟨A.b, 5, none⟩ = some (.int .u64 d.t.n) := h.c 5
  have c6 : W.cell? ⟨A.b, 6, none⟩ = some (.int .i64 d.t.p) := h.c 6
  have c7 : W.cell? ⟨A.b, 7, none⟩ = some (.int .i64 d.t.e) := h.c 7
  have f2 := h.fz 2
  have f3 := h.fz 3
  have f4 := h.fz 4
  have f5 := h.fz 5
  have f6 := h.fz 6
  have f7 := h.fz 7
  have lb := h.lt
  have HH := hid h
  have hle := h.pe
  have ls := h.ls
  obtain ⟨src, HSRC⟩ : ∃ src, Hid (A.s = src) := ⟨_, rfl⟩
  obtain ⟨e, HEE⟩ : ∃ e : Nat, Hid (d.e = e) := ⟨_, rfl⟩
  obtain ⟨⟨xk, xs, xn, xp, xe⟩, HXT⟩ : ∃ t, Hid (d.t = t) := ⟨_, rfl⟩
  rw [HXT.out] at c3 c4 c5 c6 c7
  dsimp only at c3 c4 c5 c6 c7
  rw [HEE.out] at c2 hle hc
  rw [HSRC.out] at hle ls hc
  rw [HSRC.out, HEE.out]
  have hsz : (⟨src.toArray⟩ : ByteArray).size = src.length := by simp [ByteArray.size]
  obtain ⟨LN, HLN⟩ : ∃ LN : Nat, Hid (src.length = LN) := ⟨_, rfl⟩
  rw [HLN.out] at hsz hle ls
  have hsz2 : src.toArray.size = LN := hsz
  have e31 : e ≤ 3000 := by omega
  obtain ⟨cn, HCN⟩ : ∃ cn, Hid (c.toNat = cn) := ⟨_, rfl⟩
  rw [HCN.out]
  have hlt : e < LN := by have := (List.getElem?_eq_some_iff.1 hc).1; rw [HLN.out] at this; exact this
  have CL : Hid (∀ w, Calls Tryz.prog 178 #[.int .u8 (cn : Nat)] w fun e w' => e = .returned (.bool true) ∧ w' = w) := fun w => by
    have := letter_z (w := w) c
    rw [hk, HCN.out] at this
    exact this
  obtain ⟨K, HK⟩ : ∃ K, Hid (span isWrd (src.drop e) = K) := ⟨_, rfl⟩
  have hX1 : X = (if K ≤ 40 then ⟨keywordN ((src.drop e).take K), e, (src.drop e).take K, 0, 0⟩ else badTok e 14, e + K) := by
    rw [hX, HSRC.out, HEE.out]
    unfold tokM
    rw [hc]
    dsimp only
    rw [if_pos hk, HK.out]
  have HX1 := hid hX1
  clear hX1
  have HBIG : Hid (K ≤ 40) := by show _ ≤ _; rw [← HK.out, ← HSRC.out, ← HEE.out]; exact hb
  obtain ⟨x, HXX⟩ : ∃ x, Hid ((src.drop e).take K = x) := ⟨_, rfl⟩
  have HKW : Hid (keywordN x ≠ 2) := by show keywordN x ≠ 2; rw [← HXX.out, ← HK.out, ← HSRC.out, ← HEE.out]; exact hkw
  clear hb hkw
  have HI : Hid (NxW W src isWrd e K LN (LN + 1) (.int .i64 (e : Nat)) W) := ⟨0, e, rfl, rfl, rfl, hle, by rw [← HK.out, Nat.zero_add], by omega⟩
  obtain ⟨n0, HN0⟩ : ∃ n0, Hid (LN + 1 = n0) := ⟨_, rfl⟩
  rw [HN0.out] at HI
  clear hc h H hk hX
  obtain ⟨TL, HTL⟩ : ∃ TL, Hid (n2 Tryz.f105.body = TL) := ⟨_, rfl⟩
  have EQ : n1 Tryz.f105.body = Code.seq (zL (n1 Tryz.f105.body)) (n2 Tryz.f105.body) := by kernel_rfl
  rw [HTL.out] at EQ
  rw [EQ]
  clear EQ HTL
  obtain ⟨cc, hcc⟩ : ∃ cc, cc = zL (n1 Tryz.f105.body) := ⟨_, rfl⟩
  rw [← hcc]
  simp only [n5, n4, n3, n2, n1, nxT, zR, zL, Tryz.f105, Option.getD_some] at hcc
  subst hcc
  go_wp2_with fail
  refine (CL.out _).mono ?_
  rintro e1 w1 ⟨rfl, hw⟩
  rw [hw]
  clear hw w1 CL
  go_wp2_with fail
  go_loopg [6] n0 (fun m v6 wr => Hid (NxW W src isWrd e K LN m v6 wr))
  case atStart => exact HI
  case round =>
    obtain ⟨k, j, rfl, hwr, hkj, hjl, hK, hlt2⟩ := hrel.out
    rw [hwr]
    have j31 : j ≤ 3000 := by omega
    have HKJ := hid hkj
    have HKK := hid hK
    have HL2 := hid hlt2
    clear hrel hkj hK hlt2 hwr
    by_cases hj : j < LN
    · obtain ⟨c', hc'⟩ : ∃ c, src[j]? = some c := ⟨src[j]'(by rw [HLN.out]; exact hj), by simp⟩
      have hix := fun w => run_index_str src j j rfl hc' w
      have CW : Hid (∀ w, Calls Tryz.prog 179 #[.int .u8 (c'.toNat : Nat)] w fun e w' => e = .returned (.bool (isWrd c')) ∧ w' = w) := fun w => word_z c'
      obtain ⟨cn', HCN'⟩ : ∃ cn, Hid (c'.toNat = cn) := ⟨_, rfl⟩
      rw [HCN'.out] at hix CW
      have hK := HKK.out
      rw [drop_at hc', span_cons] at hK
      cases hw : isWrd c' with
      | true =>
        rw [hw] at hK CW
        rw [if_pos rfl] at hK
        obtain ⟨g2, rfl⟩ : ∃ g2, gk = g2 + 1 := ⟨gk - 1, by have := HL2.out; omega⟩
        have HQ2 : Hid (NxW W src isWrd e K LN g2 (.int .i64 ((j : Int) + 1)) W) := ⟨k + 1, j + 1, rfl, rfl, by have := HKJ.out; omega, by omega, by omega, by have := HL2.out; omega⟩
        clear hK hc' hw
        go_wp2_with fail
        refine (CW.out _).mono ?_
        rintro e1 w1 ⟨rfl, hw⟩
        rw [hw]
        clear hw w1 CW
        go_wp2_with fail
        go_roundg g2
        case measure => omega
        case rel => exact HQ2
      | false =>
        rw [hw] at hK CW
        rw [if_neg (by decide)] at hK
        have hkK : k = K := by omega
        clear hK hc' hw
        subst hkK
        have esub : (j : Int) - (e : Int) = (k : Int) := by have := HKJ.out; omega
        have esub2 : j - e = k := by have := HKJ.out; omega
        have bgt : ¬ (40 : Int) < (k : Int) := by have := HBIG.out; omega
        have hcut : ∀ w, (Instr.sliceAt 9 (sv src) (some (.int .i64 (e : Int))) (some (.int .i64 (j : Int))) none).run Tryz.prog w = .ok (sv x) w := fun w => by
          have := run_cut src (lo := (e : Int)) (hi := (j : Int)) rfl rfl (by omega) (by rw [HLN.out]; exact hjl) w
          rw [esub2, HXX.out] at this
          exact this
        have CK : Hid (∀ w, Calls Tryz.prog 180 #[sv x] w fun e w' => e = .returned (.bool true) ∧ w' = w) := fun w => by
          have := keyword_z (w := w) x
          rw [show (keywordN x != 2) = true by rw [bne_iff_ne]; exact HKW.out] at this
          exact this
        have FIN : Hid (Q (.returned (.tuple #[])) ((((((W.setCell ⟨A.b, 2, none⟩ (.int .i64 (j : Nat))).setCell ⟨A.b, 3, none⟩ (.int .i64 4)).setCell ⟨A.b, 4, none⟩ (sv x)).setCell ⟨A.b, 5, none⟩ (.int .u64 0)).setCell ⟨A.b, 6, none⟩ (.int .i64 (e : Nat))).setCell ⟨A.b, 7, none⟩ (.int .i64 0))) := by
          show Q _ _
          rw [← HQ.out]
          exact HH.out.fin (X := X) j (by rw [HSRC.out, HLN.out]; exact hjl) ⟨4, x, 0, e, 0⟩ (by rw [HX1.out]; exact HKJ.out) (by rw [HX1.out, if_pos (by have := HBIG.out; omega), HXX.out]; have q := kw_sym HKW.out; unfold tkc; dsimp only; rw [if_neg (by omega), if_neg (by omega), if_neg (by omega), if_neg (by omega), if_neg (by omega), q.2])
        go_wp2_with fail
        refine (CW.out _).mono ?_
        rintro e1 w1 ⟨rfl, hw⟩
        rw [hw]
        clear hw w1 CW
        go_wp2_with fail
        refine (CK.out _).mono ?_
        rintro e2 w2 ⟨rfl, hw⟩
        rw [hw]
        clear hw w2 CK
        go_wp2_with fail
        refine bodyPost_ret (results_none rfl _ _ _) rfl ?_
        exact FIN.out
    · have hK := HKK.out
      rw [List.drop_eq_nil_of_le (by rw [HLN.out]; omega)] at hK
      have hkK : k = K := by have : span isWrd [] = 0 := rfl; omega
      clear hK
      subst hkK
      have esub : (j : Int) - (e : Int) = (k : Int) := by have := HKJ.out; omega
      have esub2 : j - e = k := by have := HKJ.out; omega
      have bgt : ¬ (40 : Int) < (k : Int) := by have := HBIG.out; omega
      have hcut : ∀ w, (Instr.sliceAt 9 (sv src) (some (.int .i64 (e : Int))) (some (.int .i64 (j : Int))) none).run Tryz.prog w = .ok (sv x) w := fun w => by
        have := run_cut src (lo := (e : Int)) (hi := (j : Int)) rfl rfl (by omega) (by rw [HLN.out]; exact hjl) w
        rw [esub2, HXX.out] at this
        exact this
      have CK : Hid (∀ w, Calls Tryz.prog 180 #[sv x] w fun e w' => e = .returned (.bool true) ∧ w' = w) := fun w => by
        have := keyword_z (w := w) x
        rw [show (keywordN x != 2) = true by rw [bne_iff_ne]; exact HKW.out] at this
        exact this
      have FIN : Hid (Q (.returned (.tuple #[])) ((((((W.setCell ⟨A.b, 2, none⟩ (.int .i64 (j : Nat))).setCell ⟨A.b, 3, none⟩ (.int .i64 4)).setCell ⟨A.b, 4, none⟩ (sv x)).setCell ⟨A.b, 5, none⟩ (.int .u64 0)).setCell ⟨A.b, 6, none⟩ (.int .i64 (e : Nat))).setCell ⟨A.b, 7, none⟩ (.int .i64 0))) := by
        show Q _ _
        rw [← HQ.out]
        exact HH.out.fin (X := X) j (by rw [HSRC.out, HLN.out]; exact hjl) ⟨4, x, 0, e, 0⟩ (by rw [HX1.out]; exact HKJ.out) (by rw [HX1.out, if_pos (by have := HBIG.out; omega), HXX.out]; have q := kw_sym HKW.out; unfold tkc; dsimp only; rw [if_neg (by omega), if_neg (by omega), if_neg (by omega), if_neg (by omega), if_neg (by omega), q.2])
      go_wp2_with fail
      refine (CK.out _).mono ?_
      rintro e2 w2 ⟨rfl, hw⟩
      rw [hw]
      clear hw w2 CK
      go_wp2_with fail
      refine bodyPost_ret (results_none rfl _ _ _) rfl ?_
      exact FIN.out
theorem nx_wname (h : PzM W A d) (hX : X = tokM A.s d.e) (hc : A.s[d.e]? = some c) (hk : isLet c = true) (hb : span isWrd (A.s.drop d.e) ≤ 40) (hkw : keywordN ((A.s.drop d.e).take (span isWrd (A.s.drop d.e))) = 2) (H : FrMz (.pointer (some ⟨A.b, 0, none⟩)) (sv A.s) (.int .i64 (d.e : Nat)) (.int .u8 (c.toNat : Nat)) (.int .i64 (d.e : Nat)) a) :
    (n1 Tryz.f105.body).wp Tryz.prog (bodyPost Tryz.prog Tryz.f105 (NxQ W A d X)) a W := by
  obtain ⟨u, rfl⟩ := H.form
  obtain ⟨Q, HQ⟩ : ∃ Q : Ending → World → Prop, Hid (NxQ W A d X = Q) := ⟨_, rfl⟩
  rw [HQ.out]
  have c2 : W.cell? ⟨A.b, 2, none⟩ = some (.int .i64 (d.e : Nat)) := h.c 2
  have c0 : W.cell? ⟨A.b, 0, none⟩ = some (.pointer (some ⟨A.bn, 0, none⟩)) := h.c 0
  have c3 : W.cell? ⟨A.b, 3, none⟩ = some (.int .i64 d.t.k) := h.c 3
  have c4 : W.cell? ⟨A.b, 4, none⟩ = some (sv d.t.s) := h.c 4
  have c5 : W.cell? ⟨A.b, 5, none⟩ = some (.int .u64 d.t.n) := h.c 5
  have c6 : W.cell? ⟨A.b, 6, none⟩ = some (.int .i64 d.t.p) := h.c 6
  have c7 : W.cell? ⟨A.b, 7, none⟩ = some (.int .i64 d.t.e) := h.c 7
  have f2 := h.fz 2
  have f3 := h.fz 3
  have f4 := h.fz 4
  have f5 := h.fz 5
  have f6 := h.fz 6
  have f7 := h.fz 7
  have lb := h.lt
  have HH := hid h
  have hle := h.pe
  have ls := h.ls
  obtain ⟨src, HSRC⟩ : ∃ src, Hid (A.s = src) := ⟨_, rfl⟩
  obtain ⟨e, HEE⟩ : ∃ e : Nat, Hid (d.e = e) := ⟨_, rfl⟩
  obtain ⟨⟨xk, xs, xn, xp, xe⟩, HXT⟩ : ∃ t, Hid (d.t = t) := ⟨_, rfl⟩
  rw [HXT.out] at c3 c4 c5 c6 c7
  dsimp only at c3 c4 c5 c6 c7
  rw [HEE.out] at c2 hle hc
  rw [HSRC.out] at hle ls hc
  rw [HSRC.out, HEE.out]
  have hsz : (⟨src.toArray⟩ : ByteArray).size = src.length := by simp [ByteArray.size]
  obtain ⟨LN, HLN⟩ : ∃ LN : Nat, Hid (src.length = LN) := ⟨_, rfl⟩
  rw [HLN.out] at hsz hle ls
  have hsz2 : src.toArray.size = LN := hsz
  have e31 : e ≤ 3000 := by omega
  obtain ⟨cn, HCN⟩ : ∃ cn, Hid (c.toNat = cn) := ⟨_, rfl⟩
  rw [HCN.out]
  have hlt : e < LN := by have := (List.getElem?_eq_some_iff.1 hc).1; rw [HLN.out] at this; exact this
  have CL : Hid (∀ w, Calls Tryz.prog 178 #[.int .u8 (cn : Nat)] w fun e w' => e = .returned (.bool true) ∧ w' = w) := fun w => by
    have := letter_z (w := w) c
    rw [hk, HCN.out] at this
    exact this
  obtain ⟨K, HK⟩ : ∃ K, Hid (span isWrd (src.drop e) = K) := ⟨_, rfl⟩
  have hX1 : X = (if K ≤ 40 then ⟨keywordN ((src.drop e).take K), e, (src.drop e).take K, 0, 0⟩ else badTok e 14, e + K) := by
    rw [hX, HSRC.out, HEE.out]
    unfold tokM
    rw [hc]
    dsimp only
    rw [if_pos hk, HK.out]
  have HX1 := hid hX1
  clear hX1
  have HBIG : Hid (K ≤ 40) := by show _ ≤ _; rw [← HK.out, ← HSRC.out, ← HEE.out]; exact hb
  obtain ⟨x, HXX⟩ : ∃ x, Hid ((src.drop e).take K = x) := ⟨_, rfl⟩
  have HKW : Hid (keywordN x = 2) := by show keywordN x = 2; rw [← HXX.out, ← HK.out, ← HSRC.out, ← HEE.out]; exact hkw
  clear hb hkw
  have HI : Hid (NxW W src isWrd e K LN (LN + 1) (.int .i64 (e : Nat)) W) := ⟨0, e, rfl, rfl, rfl, hle, by rw [← HK.out, Nat.zero_add], by omega⟩
  obtain ⟨n0, HN0⟩ : ∃ n0, Hid (LN + 1 = n0) := ⟨_, rfl⟩
  rw [HN0.out] at HI
  clear hc h H hk hX
  obtain ⟨TL, HTL⟩ : ∃ TL, Hid (n2 Tryz.f105.body = TL) := ⟨_, rfl⟩
  have EQ : n1 Tryz.f105.body = Code.seq (zL (n1 Tryz.f105.body)) (n2 Tryz.f105.body) := by kernel_rfl
  rw [HTL.out] at EQ
  rw [EQ]
  clear EQ HTL
  obtain ⟨cc, hcc⟩ : ∃ cc, cc = zL (n1 Tryz.f105.body) := ⟨_, rfl⟩
  rw [← hcc]
  simp only [n5, n4, n3, n2, n1, nxT, zR, zL, Tryz.f105, Option.getD_some] at hcc
  subst hcc
  go_wp2_with fail
  refine (CL.out _).mono ?_
  rintro e1 w1 ⟨rfl, hw⟩
  rw [hw]
  clear hw w1 CL
  go_wp2_with fail
  go_loopg [6] n0 (fun m v6 wr => Hid (NxW W src isWrd e K LN m v6 wr))
  case atStart => exact HI
  case round =>
    obtain ⟨k, j, rfl, hwr, hkj, hjl, hK, hlt2⟩ := hrel.out
    rw [hwr]
    have j31 : j ≤ 3000 := by omega
    have HKJ := hid hkj
    have HKK := hid hK
    have HL2 := hid hlt2
    clear hrel hkj hK hlt2 hwr
    by_cases hj : j < LN
    · obtain ⟨c', hc'⟩ : ∃ c, src[j]? = some c := ⟨src[j]'(by rw [HLN.out]; exact hj), by simp⟩
      have hix := fun w => run_index_str src j j rfl hc' w
      have CW : Hid (∀ w, Calls Tryz.prog 179 #[.int .u8 (c'.toNat : Nat)] w fun e w' => e = .returned (.bool (isWrd c')) ∧ w' = w) := fun w => word_z c'
      obtain ⟨cn', HCN'⟩ : ∃ cn, Hid (c'.toNat = cn) := ⟨_, rfl⟩
      rw [HCN'.out] at hix CW
      have hK := HKK.out
      rw [drop_at hc', span_cons] at hK
      cases hw : isWrd c' with
      | true =>
        rw [hw] at hK CW
        rw [if_pos rfl] at hK
        obtain ⟨g2, rfl⟩ : ∃ g2, gk = g2 + 1 := ⟨gk - 1, by have := HL2.out; omega⟩
        have HQ2 : Hid (NxW W src isWrd e K LN g2 (.int .i64 ((j : Int) + 1)) W) := ⟨k + 1, j + 1, rfl, rfl, by have := HKJ.out; omega, by omega, by omega, by have := HL2.out; omega⟩
        clear hK hc' hw
        go_wp2_with fail
        refine (CW.out _).mono ?_
        rintro e1 w1 ⟨rfl, hw⟩
        rw [hw]
        clear hw w1 CW
        go_wp2_with fail
        go_roundg g2
        case measure => omega
        case rel => exact HQ2
      | false =>
        rw [hw] at hK CW
        rw [if_neg (by decide)] at hK
        have hkK : k = K := by omega
        clear hK hc' hw
        subst hkK
        have esub : (j : Int) - (e : Int) = (k : Int) := by have := HKJ.out; omega
        have esub2 : j - e = k := by have := HKJ.out; omega
        have bgt : ¬ (40 : Int) < (k : Int) := by have := HBIG.out; omega
        have hcut : ∀ w, (Instr.sliceAt 9 (sv src) (some (.int .i64 (e : Int))) (some (.int .i64 (j : Int))) none).run Tryz.prog w = .ok (sv x) w := fun w => by
          have := run_cut src (lo := (e : Int)) (hi := (j : Int)) rfl rfl (by omega) (by rw [HLN.out]; exact hjl) w
          rw [esub2, HXX.out] at this
          exact this
        have CK : Hid (∀ w, Calls Tryz.prog 180 #[sv x] w fun e w' => e = .returned (.bool false) ∧ w' = w) := fun w => by
          have := keyword_z (w := w) x
          rw [show (keywordN x != 2) = false by rw [HKW.out]; rfl] at this
          exact this
        have FIN : Hid (Q (.returned (.tuple #[])) ((((((W.setCell ⟨A.b, 2, none⟩ (.int .i64 (j : Nat))).setCell ⟨A.b, 3, none⟩ (.int .i64 1)).setCell ⟨A.b, 4, none⟩ (sv x)).setCell ⟨A.b, 5, none⟩ (.int .u64 0)).setCell ⟨A.b, 6, none⟩ (.int .i64 (e : Nat))).setCell ⟨A.b, 7, none⟩ (.int .i64 0))) := by
          show Q _ _
          rw [← HQ.out]
          exact HH.out.fin (X := X) j (by rw [HSRC.out, HLN.out]; exact hjl) ⟨1, x, 0, e, 0⟩ (by rw [HX1.out]; exact HKJ.out) (by rw [HX1.out, if_pos (by have := HBIG.out; omega), HXX.out]; unfold tkc; dsimp only; rw [HKW.out]; rfl)
        go_wp2_with fail
        refine (CW.out _).mono ?_
        rintro e1 w1 ⟨rfl, hw⟩
        rw [hw]
        clear hw w1 CW
        go_wp2_with fail
        refine (CK.out _).mono ?_
        rintro e2 w2 ⟨rfl, hw⟩
        rw [hw]
        clear hw w2 CK
        go_wp2_with fail
        refine bodyPost_ret (results_none rfl _ _ _) rfl ?_
        exact FIN.out
    · have hK := HKK.out
      rw [List.drop_eq_nil_of_le (by rw [HLN.out]; omega)] at hK
      have hkK : k = K := by have : span isWrd [] = 0 := rfl; omega
      clear hK
      subst hkK
      have esub : (j : Int) - (e : Int) = (k : Int) := by have := HKJ.out; omega
      have esub2 : j - e = k := by have := HKJ.out; omega
      have bgt : ¬ (40 : Int) < (k : Int) := by have := HBIG.out; omega
      have hcut : ∀ w, (Instr.sliceAt 9 (sv src) (some (.int .i64 (e : Int))) (some (.int .i64 (j : Int))) none).run Tryz.prog w = .ok (sv x) w := fun w => by
        have := run_cut src (lo := (e : Int)) (hi := (j : Int)) rfl rfl (by omega) (by rw [HLN.out]; exact hjl) w
        rw [esub2, HXX.out] at this
        exact this
      have CK : Hid (∀ w, Calls Tryz.prog 180 #[sv x] w fun e w' => e = .returned (.bool false) ∧ w' = w) := fun w => by
        have := keyword_z (w := w) x
        rw [show (keywordN x != 2) = false by rw [HKW.out]; rfl] at this
        exact this
      have FIN : Hid (Q (.returned (.tuple #[])) ((((((W.setCell ⟨A.b, 2, none⟩ (.int .i64 (j : Nat))).setCell ⟨A.b, 3, none⟩ (.int .i64 1)).setCell ⟨A.b, 4, none⟩ (sv x)).setCell ⟨A.b, 5, none⟩ (.int .u64 0)).setCell ⟨A.b, 6, none⟩ (.int .i64 (e : Nat))).setCell ⟨A.b, 7, none⟩ (.int .i64 0))) := by
        show Q _ _
        rw [← HQ.out]
        exact HH.out.fin (X := X) j (by rw [HSRC.out, HLN.out]; exact hjl) ⟨1, x, 0, e, 0⟩ (by rw [HX1.out]; exact HKJ.out) (by rw [HX1.out, if_pos (by have := HBIG.out; omega), HXX.out]; unfold tkc; dsimp only; rw [HKW.out]; rfl)
      go_wp2_with fail
      refine (CK.out _).mono ?_
      rintro e2 w2 ⟨rfl, hw⟩
      rw [hw]
      clear hw w2 CK
      go_wp2_with fail
      refine bodyPost_ret (results_none rfl _ _ _) rfl ?_
      exact FIN.out
end
end Go.Proofs.Qxb6500574aGreatDoor
