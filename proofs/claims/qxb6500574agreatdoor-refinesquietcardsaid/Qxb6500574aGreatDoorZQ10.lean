/-
  THE WALKS of syntaxm: next: numbers.
-/
import Derived.Test.Qxb6500574aGreatDoorZQ9
namespace Go.Proofs.Qxb6500574aGreatDoor
open Go Go.RowKit
set_option linter.unusedVariables false
set_option linter.unusedSimpArgs false
def zT : Code → Code
  | .seq _ (.cond _ x _) => x
  | c => c
def zE : Code → Code
  | .seq _ (.cond _ _ y) => y
  | c => c
def zI : Code → Code
  | .block _ b => b
  | c => c
/-- a number's code; behind its first digits; behind all of it -/
def nN (c : Option Code) : Code := zT (zL (n2 c))
def nM (c : Option Code) : Code := zR (nN c)
def nE (c : Option Code) : Code := zR (nM c)
section
variable {w W : World} {A : PzP} {d : PzD} {a : Act} {c : UInt8} {X : Tok × Nat}
set_option maxRecDepth 100000
set_option maxHeartbeats 2000000
theorem num_loop {K : Act → World → Prop} {Q : Ending → World → Prop} (h : PzM W A d) {D : Nat} (hD : span isDig (A.s.drop d.e) = D) (H : FrMz (.pointer (some ⟨A.b, 0, none⟩)) (sv A.s) (.int .i64 (d.e : Nat)) (.int .u8 (c.toNat : Nat)) (.int .i64 (d.e : Nat)) a)
    (hN : ∀ a : Act, FrMz (.pointer (some ⟨A.b, 0, none⟩)) (sv A.s) (.int .i64 (d.e : Nat)) (.int .u8 (c.toNat : Nat)) (.int .i64 (d.e + D : Nat)) a → (nM Tryz.f105.body).wp Tryz.prog (Exit.then K (bodyPost Tryz.prog Tryz.f105 Q)) a W) : (nN Tryz.f105.body).wp Tryz.prog (Exit.then K (bodyPost Tryz.prog Tryz.f105 Q)) a W := by
  obtain ⟨u, rfl⟩ := H.form
  have hle := h.pe
  have ls := h.ls
  obtain ⟨src, HSRC⟩ : ∃ src, Hid (A.s = src) := ⟨_, rfl⟩
  obtain ⟨e0, HEE⟩ : ∃ e : Nat, Hid (d.e = e) := ⟨_, rfl⟩
  obtain ⟨cn, HCN⟩ : ∃ cn, Hid (c.toNat = cn) := ⟨_, rfl⟩
  rw [HEE.out] at hle hN hD
  rw [HSRC.out] at hle ls hN hD
  rw [HCN.out] at hN
  rw [HSRC.out, HEE.out, HCN.out]
  have hsz : (⟨src.toArray⟩ : ByteArray).size = src.length := by simp [ByteArray.size]
  obtain ⟨LN, HLN⟩ : ∃ LN : Nat, Hid (src.length = LN) := ⟨_, rfl⟩
  rw [HLN.out] at hsz hle ls
  have hsz2 : src.toArray.size = LN := hsz
  have e31 : e0 ≤ 3000 := by omega
  obtain ⟨TL, HTL⟩ : ∃ TL, Hid (nM Tryz.f105.body = TL) := ⟨_, rfl⟩
  have EQ : nN Tryz.f105.body = Code.seq (zL (nN Tryz.f105.body)) (nM Tryz.f105.body) := by kernel_rfl
  rw [HTL.out] at EQ hN
  rw [EQ]
  clear EQ HTL
  obtain ⟨cc, hcc⟩ : ∃ cc, cc = zL (nN Tryz.f105.body) := ⟨_, rfl⟩
  rw [← hcc]
  simp only [n5, n4, n3, n2, n1, nxT, zR, zL, nN, nM, nE, zT, zE, zI, Tryz.f105, Option.getD_some] at hcc
  subst hcc
  have HN := hid hN
  have HI : Hid (NxW W src isDig e0 D LN (LN + 1) (.int .i64 (e0 : Nat)) W) := ⟨0, e0, rfl, rfl, rfl, hle, by rw [← hD, Nat.zero_add], by omega⟩
  obtain ⟨n0, HN0⟩ : ∃ n0, Hid (LN + 1 = n0) := ⟨_, rfl⟩
  rw [HN0.out] at HI
  clear hN h H hD
  go_wp2_with fail
  go_loopg [6] n0 (fun m v6 wr => Hid (NxW W src isDig e0 D LN m v6 wr))
  case atStart => exact HI
  case round =>
    obtain ⟨k, j, rfl, hwr, hkj, hjl, hK, hlt2⟩ := hrel.out
    rw [hwr]
    have j31 : j ≤ 3000 := by omega
    have HKJ := hid hkj
    have HKK := hid hK
    have HL2 := hid hlt2
    clear hrel hkj hK hlt2 hwr
    by_cases hj : j < LN
    · obtain ⟨c', hc'⟩ : ∃ c, src[j]? = some c := ⟨src[j]'(by rw [HLN.out]; exact hj), by simp⟩
      have hix := fun w => run_index_str src j j rfl hc' w
      have CW : Hid (∀ w, Calls Tryz.prog 181 #[.int .u8 (c'.toNat : Nat)] w fun e w' => e = .returned (.bool (isDig c')) ∧ w' = w) := fun w => digit_z c'
      obtain ⟨cn', HCN'⟩ : ∃ cn, Hid (c'.toNat = cn) := ⟨_, rfl⟩
      rw [HCN'.out] at hix CW
      have hK := HKK.out
      rw [drop_at hc', span_cons] at hK
      cases hw : isDig c' with
      | true =>
        rw [hw] at hK CW
        rw [if_pos rfl] at hK
        obtain ⟨g2, rfl⟩ : ∃ g2, gk = g2 + 1 := ⟨gk - 1, by have := HL2.out; omega⟩
        have HQ2 : Hid (NxW W src isDig e0 D LN g2 (.int .i64 ((j : Int) + 1)) W) := ⟨k + 1, j + 1, rfl, rfl, by have := HKJ.out; omega, by omega, by omega, by have := HL2.out; omega⟩
        clear hK hc' hw
        go_wp2_with fail
        refine (CW.out _).mono ?_
        rintro e1 w1 ⟨rfl, hw⟩
        rw [hw]
        clear hw w1 CW
        go_wp2_with fail
        go_roundg g2
        case measure => omega
        case rel => exact HQ2
      | false =>
        rw [hw] at hK CW
        rw [if_neg (by decide)] at hK
        have HE : Hid (e0 + D = j) := by show _ = _; have := HKJ.out; omega
        clear hK hc' hw
        go_wp2_with fail
        refine (CW.out _).mono ?_
        rintro e1 w1 ⟨rfl, hw⟩
        rw [hw]
        clear hw w1 CW
        go_wp2_with fail
        rw [HE.out] at HN
        exact HN.out _ ⟨by kernel_rfl, by kernel_rfl, by kernel_rfl, by kernel_rfl, by kernel_rfl, by kernel_rfl, rfl⟩
    · have hK := HKK.out
      rw [List.drop_eq_nil_of_le (by rw [HLN.out]; omega)] at hK
      have HE : Hid (e0 + D = j) := by show _ = _; have := HKJ.out; have : span isDig [] = 0 := rfl; omega
      clear hK
      go_wp2_with fail
      rw [HE.out] at HN
      exact HN.out _ ⟨by kernel_rfl, by kernel_rfl, by kernel_rfl, by kernel_rfl, by kernel_rfl, by kernel_rfl, rfl⟩
theorem num_dot {K : Act → World → Prop} {Q : Ending → World → Prop} (h : PzM W A d) {D L : Nat} (hD : d.e + D ≤ A.s.length) (h1 : A.s[d.e + D]? = some 46) (h2 : headDig (A.s.drop (d.e + D + 1)) = true) (hL : D + 1 + span isDig (A.s.drop (d.e + D + 1)) = L) (H : FrMz (.pointer (some ⟨A.b, 0, none⟩)) (sv A.s) (.int .i64 (d.e : Nat)) (.int .u8 (c.toNat : Nat)) (.int .i64 (d.e + D : Nat)) a)
    (hN : ∀ a : Act, FrMz (.pointer (some ⟨A.b, 0, none⟩)) (sv A.s) (.int .i64 (d.e : Nat)) (.int .u8 (c.toNat : Nat)) (.int .i64 (d.e + L : Nat)) a → (nE Tryz.f105.body).wp Tryz.prog (Exit.then K (bodyPost Tryz.prog Tryz.f105 Q)) a W) : (nM Tryz.f105.body).wp Tryz.prog (Exit.then K (bodyPost Tryz.prog Tryz.f105 Q)) a W := by
  obtain ⟨u, rfl⟩ := H.form
  have hle := h.pe
  have ls := h.ls
  obtain ⟨src, HSRC⟩ : ∃ src, Hid (A.s = src) := ⟨_, rfl⟩
  obtain ⟨e0, HEE⟩ : ∃ e : Nat, Hid (d.e = e) := ⟨_, rfl⟩
  obtain ⟨cn, HCN⟩ : ∃ cn, Hid (c.toNat = cn) := ⟨_, rfl⟩
  rw [HEE.out] at hle hN hD h1 h2 hL
  rw [HSRC.out] at hle ls hN hD h1 h2 hL
  rw [HCN.out] at hN
  rw [HSRC.out, HEE.out, HCN.out]
  have hsz : (⟨src.toArray⟩ : ByteArray).size = src.length := by simp [ByteArray.size]
  obtain ⟨LN, HLN⟩ : ∃ LN : Nat, Hid (src.length = LN) := ⟨_, rfl⟩
  rw [HLN.out] at hsz hle ls
  have hsz2 : src.toArray.size = LN := hsz
  have e31 : e0 ≤ 3000 := by omega
  obtain ⟨TL, HTL⟩ : ∃ TL, Hid (nE Tryz.f105.body = TL) := ⟨_, rfl⟩
  have EQ : nM Tryz.f105.body = Code.seq (zL (nM Tryz.f105.body)) (nE Tryz.f105.body) := by kernel_rfl
  rw [HTL.out] at EQ hN
  rw [EQ]
  clear EQ HTL
  obtain ⟨cc, hcc⟩ : ∃ cc, cc = zL (nM Tryz.f105.body) := ⟨_, rfl⟩
  rw [← hcc]
  simp only [n5, n4, n3, n2, n1, nxT, zR, zL, nN, nM, nE, zT, zE, zI, Tryz.f105, Option.getD_some] at hcc
  subst hcc
  have HN := hid hN
  rw [HLN.out] at hD
  obtain ⟨f, HF⟩ : ∃ f : Nat, Hid (e0 + D = f) := ⟨_, rfl⟩
  rw [HF.out] at hD h1 h2 hL ⊢
  have f31 : f ≤ 3000 := by omega
  clear hN h H
  have hf : f + 1 < LN := by
    apply Decidable.byContradiction
    intro z
    rw [hd_none (by rw [HLN.out]; omega)] at h2
    cases h2
  obtain ⟨x, hx⟩ : ∃ c, src[f + 1]? = some c := ⟨src[f + 1]'(by rw [HLN.out]; exact hf), by simp⟩
  rw [hd_some hx] at h2
  have hix0 := fun w => run_index_str src f f rfl h1 w
  have hix0 : ∀ w, (Instr.index 9 (sv src) (.int .i64 (f : Int))).run Tryz.prog w = .ok (.int .u8 46) w := hix0
  have hix1 := fun w => run_index_str src (f + 1) ((f : Int) + 1) (by omega) hx w
  have CD : Hid (∀ w, Calls Tryz.prog 181 #[.int .u8 (x.toNat : Nat)] w fun e w' => e = .returned (.bool true) ∧ w' = w) := fun w => by
    have := digit_z (w := w) x
    rw [h2] at this
    exact this
  obtain ⟨xn, HXN⟩ : ∃ cn, Hid (x.toNat = cn) := ⟨_, rfl⟩
  rw [HXN.out] at hix1 CD
  obtain ⟨e, HE1⟩ : ∃ e, Hid (f + 1 = e) := ⟨_, rfl⟩
  obtain ⟨K0, HK0⟩ : ∃ K, Hid (span isDig (src.drop (f + 1)) = K) := ⟨_, rfl⟩
  rw [HE1.out] at HK0
  have HI : Hid (NxW W src isDig e K0 LN (LN + 1) (.int .i64 ((f : Int) + 1)) W) := ⟨0, e, by congr 1; have := HE1.out; omega, rfl, rfl, by have := HE1.out; omega, by rw [HK0.out, Nat.zero_add], by have := HE1.out; omega⟩
  have eL : e0 + L = e + K0 := by
    rw [HE1.out, HK0.out] at hL
    have := HF.out
    have := HE1.out
    omega
  rw [eL] at HN
  obtain ⟨n0, HN0⟩ : ∃ n0, Hid (LN + 1 = n0) := ⟨_, rfl⟩
  rw [HN0.out] at HI
  clear h1 h2 hL hx eL
  go_wp2_with fail
  refine (CD.out _).mono ?_
  rintro e1 w1 ⟨rfl, hw⟩
  rw [hw]
  clear hw w1 CD hix0 hix1
  go_wp2_with fail
  go_loopg [6] n0 (fun m v6 wr => Hid (NxW W src isDig e K0 LN m v6 wr))
  case atStart => exact HI
  case round =>
    obtain ⟨k, j, rfl, hwr, hkj, hjl, hK, hlt2⟩ := hrel.out
    rw [hwr]
    have j31 : j ≤ 3000 := by omega
    have HKJ := hid hkj
    have HKK := hid hK
    have HL2 := hid hlt2
    clear hrel hkj hK hlt2 hwr
    by_cases hj : j < LN
    · obtain ⟨c', hc'⟩ : ∃ c, src[j]? = some c := ⟨src[j]'(by rw [HLN.out]; exact hj), by simp⟩
      have hix := fun w => run_index_str src j j rfl hc' w
      have CW : Hid (∀ w, Calls Tryz.prog 181 #[.int .u8 (c'.toNat : Nat)] w fun e w' => e = .returned (.bool (isDig c')) ∧ w' = w) := fun w => digit_z c'
      obtain ⟨cn', HCN'⟩ : ∃ cn, Hid (c'.toNat = cn) := ⟨_, rfl⟩
      rw [HCN'.out] at hix CW
      have hK := HKK.out
      rw [drop_at hc', span_cons] at hK
      cases hw : isDig c' with
      | true =>
        rw [hw] at hK CW
        rw [if_pos rfl] at hK
        obtain ⟨g2, rfl⟩ : ∃ g2, gk = g2 + 1 := ⟨gk - 1, by have := HL2.out; omega⟩
        have HQ2 : Hid (NxW W src isDig e K0 LN g2 (.int .i64 ((j : Int) + 1)) W) := ⟨k + 1, j + 1, rfl, rfl, by have := HKJ.out; omega, by omega, by omega, by have := HL2.out; omega⟩
        clear hK hc' hw
        go_wp2_with fail
        refine (CW.out _).mono ?_
        rintro e1 w1 ⟨rfl, hw⟩
        rw [hw]
        clear hw w1 CW
        go_wp2_with fail
        go_roundg g2
        case measure => omega
        case rel => exact HQ2
      | false =>
        rw [hw] at hK CW
        rw [if_neg (by decide)] at hK
        have HE : Hid (e + K0 = j) := by show _ = _; have := HKJ.out; omega
        clear hK hc' hw
        go_wp2_with fail
        refine (CW.out _).mono ?_
        rintro e1 w1 ⟨rfl, hw⟩
        rw [hw]
        clear hw w1 CW
        go_wp2_with fail
        rw [HE.out] at HN
        exact HN.out _ ⟨by kernel_rfl, by kernel_rfl, by kernel_rfl, by kernel_rfl, by kernel_rfl, by kernel_rfl, rfl⟩
    · have hK := HKK.out
      rw [List.drop_eq_nil_of_le (by rw [HLN.out]; omega)] at hK
      have HE : Hid (e + K0 = j) := by show _ = _; have := HKJ.out; have : span isDig [] = 0 := rfl; omega
      clear hK
      go_wp2_with fail
      rw [HE.out] at HN
      exact HN.out _ ⟨by kernel_rfl, by kernel_rfl, by kernel_rfl, by kernel_rfl, by kernel_rfl, by kernel_rfl, rfl⟩
theorem num_pow {K : Act → World → Prop} {Q : Ending → World → Prop} (h : PzM W A d) {D L : Nat} (hD : d.e + D ≤ A.s.length) (hnd : ¬ (A.s[d.e + D]? = some 46 ∧ headDig (A.s.drop (d.e + D + 1)) = true)) (hp : powP A.s (d.e + D)) (hL : D + 2 + span isDig (A.s.drop (d.e + D + 2)) = L) (H : FrMz (.pointer (some ⟨A.b, 0, none⟩)) (sv A.s) (.int .i64 (d.e : Nat)) (.int .u8 (c.toNat : Nat)) (.int .i64 (d.e + D : Nat)) a)
    (hN : ∀ a : Act, FrMz (.pointer (some ⟨A.b, 0, none⟩)) (sv A.s) (.int .i64 (d.e : Nat)) (.int .u8 (c.toNat : Nat)) (.int .i64 (d.e + L : Nat)) a → (nE Tryz.f105.body).wp Tryz.prog (Exit.then K (bodyPost Tryz.prog Tryz.f105 Q)) a W) : (nM Tryz.f105.body).wp Tryz.prog (Exit.then K (bodyPost Tryz.prog Tryz.f105 Q)) a W := by
  obtain ⟨u, rfl⟩ := H.form
  have hle := h.pe
  have ls := h.ls
  obtain ⟨src, HSRC⟩ : ∃ src, Hid (A.s = src) := ⟨_, rfl⟩
  obtain ⟨e0, HEE⟩ : ∃ e : Nat, Hid (d.e = e) := ⟨_, rfl⟩
  obtain ⟨cn, HCN⟩ : ∃ cn, Hid (c.toNat = cn) := ⟨_, rfl⟩
  rw [HEE.out] at hle hN hD hnd hp hL
  rw [HSRC.out] at hle ls hN hD hnd hp hL
  rw [HCN.out] at hN
  rw [HSRC.out, HEE.out, HCN.out]
  have hsz : (⟨src.toArray⟩ : ByteArray).size = src.length := by simp [ByteArray.size]
  obtain ⟨LN, HLN⟩ : ∃ LN : Nat, Hid (src.length = LN) := ⟨_, rfl⟩
  rw [HLN.out] at hsz hle ls
  have hsz2 : src.toArray.size = LN := hsz
  have e31 : e0 ≤ 3000 := by omega
  obtain ⟨TL, HTL⟩ : ∃ TL, Hid (nE Tryz.f105.body = TL) := ⟨_, rfl⟩
  have EQ : nM Tryz.f105.body = Code.seq (zL (nM Tryz.f105.body)) (nE Tryz.f105.body) := by kernel_rfl
  rw [HTL.out] at EQ hN
  rw [EQ]
  clear EQ HTL
  obtain ⟨cc, hcc⟩ : ∃ cc, cc = zL (nM Tryz.f105.body) := ⟨_, rfl⟩
  rw [← hcc]
  simp only [n5, n4, n3, n2, n1, nxT, zR, zL, nN, nM, nE, zT, zE, zI, Tryz.f105, Option.getD_some] at hcc
  subst hcc
  have HN := hid hN
  rw [HLN.out] at hD
  obtain ⟨f, HF⟩ : ∃ f : Nat, Hid (e0 + D = f) := ⟨_, rfl⟩
  rw [HF.out] at hD hnd hp hL ⊢
  have f31 : f ≤ 3000 := by omega
  clear hN h H
  have HND := hid hnd
  have CP : Hid (∀ w, Calls Tryz.prog 182 #[sv src, .int .i64 (f : Int)] w fun e w' => e = .returned (.bool true) ∧ w' = w) := fun w => by
    have := power_z (w := w) src f (by rw [HLN.out]; exact hD) (by rw [HLN.out]; omega) (i' := (f : Int)) rfl
    rw [decide_eq_true hp] at this
    exact this
  have hf2 : f + 2 ≤ LN := by
    obtain ⟨_, z | z⟩ := hp
    · have := (List.getElem?_eq_some_iff.1 z.1).1
      rw [HLN.out] at this
      omega
    · apply Decidable.byContradiction
      intro y
      rw [hd_none (by rw [HLN.out]; omega)] at z
      cases z.2
  obtain ⟨e, HE1⟩ : ∃ e, Hid (f + 2 = e) := ⟨_, rfl⟩
  obtain ⟨K0, HK0⟩ : ∃ K, Hid (span isDig (src.drop (f + 2)) = K) := ⟨_, rfl⟩
  rw [HE1.out] at HK0
  have HI : Hid (NxW W src isDig e K0 LN (LN + 1) (.int .i64 ((f : Int) + 2)) W) := ⟨0, e, by congr 1; have := HE1.out; omega, rfl, rfl, by have := HE1.out; omega, by rw [HK0.out, Nat.zero_add], by have := HE1.out; omega⟩
  have eL : e0 + L = e + K0 := by
    rw [HE1.out, HK0.out] at hL
    have := HF.out
    have := HE1.out
    omega
  rw [eL] at HN
  obtain ⟨n0, HN0⟩ : ∃ n0, Hid (LN + 1 = n0) := ⟨_, rfl⟩
  rw [HN0.out] at HI
  clear hnd hp hL eL
  by_cases hf1 : f + 1 < LN
  · obtain ⟨x0, hx0⟩ : ∃ c, src[f]? = some c := ⟨src[f]'(by rw [HLN.out]; omega), by simp⟩
    have hix0 := fun w => run_index_str src f f rfl hx0 w
    by_cases h46 : x0 = 46
    · replace hix0 : ∀ w, (Instr.index 9 (sv src) (.int .i64 (f : Int))).run Tryz.prog w = .ok (.int .u8 46) w := by rw [h46] at hix0; exact hix0
      obtain ⟨x, hx⟩ : ∃ c, src[f + 1]? = some c := ⟨src[f + 1]'(by rw [HLN.out]; exact hf1), by simp⟩
      have hix1 := fun w => run_index_str src (f + 1) ((f : Int) + 1) (by omega) hx w
      have CD : Hid (∀ w, Calls Tryz.prog 181 #[.int .u8 (x.toNat : Nat)] w fun e w' => e = .returned (.bool false) ∧ w' = w) := fun w => by
        have := digit_z (w := w) x
        rw [show isDig x = false by
          have z : ¬ (isDig x = true) := fun z => HND.out ⟨by rw [hx0, h46], by rw [hd_some hx]; exact z⟩
          simpa using z] at this
        exact this
      obtain ⟨xn, HXN⟩ : ∃ cn, Hid (x.toNat = cn) := ⟨_, rfl⟩
      rw [HXN.out] at hix1 CD
      clear hx hx0 h46
      go_wp2_with fail
      refine (CD.out _).mono ?_
      rintro e1 w1 ⟨rfl, hw⟩
      rw [hw]
      clear hw w1 CD hix0 hix1
      go_wp2_with fail
      refine (CP.out _).mono ?_
      rintro e9 w9 ⟨rfl, hw⟩
      rw [hw]
      clear hw w9 CP
      go_wp2_with fail
      go_loopg [6] n0 (fun m v6 wr => Hid (NxW W src isDig e K0 LN m v6 wr))
      case atStart => exact HI
      case round =>
        obtain ⟨k, j, rfl, hwr, hkj, hjl, hK, hlt2⟩ := hrel.out
        rw [hwr]
        have j31 : j ≤ 3000 := by omega
        have HKJ := hid hkj
        have HKK := hid hK
        have HL2 := hid hlt2
        clear hrel hkj hK hlt2 hwr
        by_cases hj : j < LN
        · obtain ⟨c', hc'⟩ : ∃ c, src[j]? = some c := ⟨src[j]'(by rw [HLN.out]; exact hj), by simp⟩
          have hix := fun w => run_index_str src j j rfl hc' w
          have CW : Hid (∀ w, Calls Tryz.prog 181 #[.int .u8 (c'.toNat : Nat)] w fun e w' => e = .returned (.bool (isDig c')) ∧ w' = w) := fun w => digit_z c'
          obtain ⟨cn', HCN'⟩ : ∃ cn, Hid (c'.toNat = cn) := ⟨_, rfl⟩
          rw [HCN'.out] at hix CW
          have hK := HKK.out
          rw [drop_at hc', span_cons] at hK
          cases hw : isDig c' with
          | true =>
            rw [hw] at hK CW
            rw [if_pos rfl] at hK
            obtain ⟨g2, rfl⟩ : ∃ g2, gk = g2 + 1 := ⟨gk - 1, by have := HL2.out; omega⟩
            have HQ2 : Hid (NxW W src isDig e K0 LN g2 (.int .i64 ((j : Int) + 1)) W) := ⟨k + 1, j + 1, rfl, rfl, by have := HKJ.out; omega, by omega, by omega, by have := HL2.out; omega⟩
            clear hK hc' hw
            go_wp2_with fail
            refine (CW.out _).mono ?_
            rintro e1 w1 ⟨rfl, hw⟩
            rw [hw]
            clear hw w1 CW
            go_wp2_with fail
            go_roundg g2
            case measure => omega
            case rel => exact HQ2
          | false =>
            rw [hw] at hK CW
            rw [if_neg (by decide)] at hK
            have HE : Hid (e + K0 = j) := by show _ = _; have := HKJ.out; omega
            clear hK hc' hw
            go_wp2_with fail
            refine (CW.out _).mono ?_
            rintro e1 w1 ⟨rfl, hw⟩
            rw [hw]
            clear hw w1 CW
            go_wp2_with fail
            rw [HE.out] at HN
            exact HN.out _ ⟨by kernel_rfl, by kernel_rfl, by kernel_rfl, by kernel_rfl, by kernel_rfl, by kernel_rfl, rfl⟩
        · have hK := HKK.out
          rw [List.drop_eq_nil_of_le (by rw [HLN.out]; omega)] at hK
          have HE : Hid (e + K0 = j) := by show _ = _; have := HKJ.out; have : span isDig [] = 0 := rfl; omega
          clear hK
          go_wp2_with fail
          rw [HE.out] at HN
          exact HN.out _ ⟨by kernel_rfl, by kernel_rfl, by kernel_rfl, by kernel_rfl, by kernel_rfl, by kernel_rfl, rfl⟩
    · obtain ⟨xn, HXN⟩ : ∃ cn, Hid (x0.toNat = cn) := ⟨_, rfl⟩
      rw [HXN.out] at hix0
      have b46 : ((xn : Int) == 46) = false := u8b HXN.out 46 h46
      clear hx0 h46
      go_wp2_with fail
      refine (CP.out _).mono ?_
      rintro e9 w9 ⟨rfl, hw⟩
      rw [hw]
      clear hw w9 CP
      go_wp2_with fail
      go_loopg [6] n0 (fun m v6 wr => Hid (NxW W src isDig e K0 LN m v6 wr))
      case atStart => exact HI
      case round =>
        obtain ⟨k, j, rfl, hwr, hkj, hjl, hK, hlt2⟩ := hrel.out
        rw [hwr]
        have j31 : j ≤ 3000 := by omega
        have HKJ := hid hkj
        have HKK := hid hK
        have HL2 := hid hlt2
        clear hrel hkj hK hlt2 hwr
        by_cases hj : j < LN
        · obtain ⟨c', hc'⟩ : ∃ c, src[j]? = some c := ⟨src[j]'(by rw [HLN.out]; exact hj), by simp⟩
          have hix := fun w => run_index_str src j j rfl hc' w
          have CW : Hid (∀ w, Calls Tryz.prog 181 #[.int .u8 (c'.toNat : Nat)] w fun e w' => e = .returned (.bool (isDig c')) ∧ w' = w) := fun w => digit_z c'
          obtain ⟨cn', HCN'⟩ : ∃ cn, Hid (c'.toNat = cn) := ⟨_, rfl⟩
          rw [HCN'.out] at hix CW
          have hK := HKK.out
          rw [drop_at hc', span_cons] at hK
          cases hw : isDig c' with
          | true =>
            rw [hw] at hK CW
            rw [if_pos rfl] at hK
            obtain ⟨g2, rfl⟩ : ∃ g2, gk = g2 + 1 := ⟨gk - 1, by have := HL2.out; omega⟩
            have HQ2 : Hid (NxW W src isDig e K0 LN g2 (.int .i64 ((j : Int) + 1)) W) := ⟨k + 1, j + 1, rfl, rfl, by have := HKJ.out; omega, by omega, by omega, by have := HL2.out; omega⟩
            clear hK hc' hw
            go_wp2_with fail
            refine (CW.out _).mono ?_
            rintro e1 w1 ⟨rfl, hw⟩
            rw [hw]
            clear hw w1 CW
            go_wp2_with fail
            go_roundg g2
            case measure => omega
            case rel => exact HQ2
          | false =>
            rw [hw] at hK CW
            rw [if_neg (by decide)] at hK
            have HE : Hid (e + K0 = j) := by show _ = _; have := HKJ.out; omega
            clear hK hc' hw
            go_wp2_with fail
            refine (CW.out _).mono ?_
            rintro e1 w1 ⟨rfl, hw⟩
            rw [hw]
            clear hw w1 CW
            go_wp2_with fail
            rw [HE.out] at HN
            exact HN.out _ ⟨by kernel_rfl, by kernel_rfl, by kernel_rfl, by kernel_rfl, by kernel_rfl, by kernel_rfl, rfl⟩
        · have hK := HKK.out
          rw [List.drop_eq_nil_of_le (by rw [HLN.out]; omega)] at hK
          have HE : Hid (e + K0 = j) := by show _ = _; have := HKJ.out; have : span isDig [] = 0 := rfl; omega
          clear hK
          go_wp2_with fail
          rw [HE.out] at HN
          exact HN.out _ ⟨by kernel_rfl, by kernel_rfl, by kernel_rfl, by kernel_rfl, by kernel_rfl, by kernel_rfl, rfl⟩
  · have bf : ¬ ((f : Int) + 1 < (LN : Int)) := by omega
    go_wp2_with fail
    refine (CP.out _).mono ?_
    rintro e9 w9 ⟨rfl, hw⟩
    rw [hw]
    clear hw w9 CP
    go_wp2_with fail
    go_loopg [6] n0 (fun m v6 wr => Hid (NxW W src isDig e K0 LN m v6 wr))
    case atStart => exact HI
    case round =>
      obtain ⟨k, j, rfl, hwr, hkj, hjl, hK, hlt2⟩ := hrel.out
      rw [hwr]
      have j31 : j ≤ 3000 := by omega
      have HKJ := hid hkj
      have HKK := hid hK
      have HL2 := hid hlt2
      clear hrel hkj hK hlt2 hwr
      by_cases hj : j < LN
      · obtain ⟨c', hc'⟩ : ∃ c, src[j]? = some c := ⟨src[j]'(by rw [HLN.out]; exact hj), by simp⟩
        have hix := fun w => run_index_str src j j rfl hc' w
        have CW : Hid (∀ w, Calls Tryz.prog 181 #[.int .u8 (c'.toNat : Nat)] w fun e w' => e = .returned (.bool (isDig c')) ∧ w' = w) := fun w => digit_z c'
        obtain ⟨cn', HCN'⟩ : ∃ cn, Hid (c'.toNat = cn) := ⟨_, rfl⟩
        rw [HCN'.out] at hix CW
        have hK := HKK.out
        rw [drop_at hc', span_cons] at hK
        cases hw : isDig c' with
        | true =>
          rw [hw] at hK CW
          rw [if_pos rfl] at hK
          obtain ⟨g2, rfl⟩ : ∃ g2, gk = g2 + 1 := ⟨gk - 1, by have := HL2.out; omega⟩
          have HQ2 : Hid (NxW W src isDig e K0 LN g2 (.int .i64 ((j : Int) + 1)) W) := ⟨k + 1, j + 1, rfl, rfl, by have := HKJ.out; omega, by omega, by omega, by have := HL2.out; omega⟩
          clear hK hc' hw
          go_wp2_with fail
          refine (CW.out _).mono ?_
          rintro e1 w1 ⟨rfl, hw⟩
          rw [hw]
          clear hw w1 CW
          go_wp2_with fail
          go_roundg g2
          case measure => omega
          case rel => exact HQ2
        | false =>
          rw [hw] at hK CW
          rw [if_neg (by decide)] at hK
          have HE : Hid (e + K0 = j) := by show _ = _; have := HKJ.out; omega
          clear hK hc' hw
          go_wp2_with fail
          refine (CW.out _).mono ?_
          rintro e1 w1 ⟨rfl, hw⟩
          rw [hw]
          clear hw w1 CW
          go_wp2_with fail
          rw [HE.out] at HN
          exact HN.out _ ⟨by kernel_rfl, by kernel_rfl, by kernel_rfl, by kernel_rfl, by kernel_rfl, by kernel_rfl, rfl⟩
      · have hK := HKK.out
        rw [List.drop_eq_nil_of_le (by rw [HLN.out]; omega)] at hK
        have HE : Hid (e + K0 = j) := by show _ = _; have := HKJ.out; have : span isDig [] = 0 := rfl; omega
        clear hK
        go_wp2_with fail
        rw [HE.out] at HN
        exact HN.out _ ⟨by kernel_rfl, by kernel_rfl, by kernel_rfl, by kernel_rfl, by kernel_rfl, by kernel_rfl, rfl⟩
theorem num_int {K : Act → World → Prop} {Q : Ending → World → Prop} (h : PzM W A d) {D L : Nat} (hD : d.e + D ≤ A.s.length) (hnd : ¬ (A.s[d.e + D]? = some 46 ∧ headDig (A.s.drop (d.e + D + 1)) = true)) (hp : ¬ powP A.s (d.e + D)) (hL : D = L) (H : FrMz (.pointer (some ⟨A.b, 0, none⟩)) (sv A.s) (.int .i64 (d.e : Nat)) (.int .u8 (c.toNat : Nat)) (.int .i64 (d.e + D : Nat)) a)
    (hN : ∀ a : Act, FrMz (.pointer (some ⟨A.b, 0, none⟩)) (sv A.s) (.int .i64 (d.e : Nat)) (.int .u8 (c.toNat : Nat)) (.int .i64 (d.e + L : Nat)) a → (nE Tryz.f105.body).wp Tryz.prog (Exit.then K (bodyPost Tryz.prog Tryz.f105 Q)) a W) : (nM Tryz.f105.body).wp Tryz.prog (Exit.then K (bodyPost Tryz.prog Tryz.f105 Q)) a W := by
  obtain ⟨u, rfl⟩ := H.form
  have hle := h.pe
  have ls := h.ls
  obtain ⟨src, HSRC⟩ : ∃ src, Hid (A.s = src) := ⟨_, rfl⟩
  obtain ⟨e0, HEE⟩ : ∃ e : Nat, Hid (d.e = e) := ⟨_, rfl⟩
  obtain ⟨cn, HCN⟩ : ∃ cn, Hid (c.toNat = cn) := ⟨_, rfl⟩
  rw [HEE.out] at hle hN hD hnd hp
  rw [HSRC.out] at hle ls hN hD hnd hp
  rw [HCN.out] at hN
  rw [HSRC.out, HEE.out, HCN.out]
  have hsz : (⟨src.toArray⟩ : ByteArray).size = src.length := by simp [ByteArray.size]
  obtain ⟨LN, HLN⟩ : ∃ LN : Nat, Hid (src.length = LN) := ⟨_, rfl⟩
  rw [HLN.out] at hsz hle ls
  have hsz2 : src.toArray.size = LN := hsz
  have e31 : e0 ≤ 3000 := by omega
  obtain ⟨TL, HTL⟩ : ∃ TL, Hid (nE Tryz.f105.body = TL) := ⟨_, rfl⟩
  have EQ : nM Tryz.f105.body = Code.seq (zL (nM Tryz.f105.body)) (nE Tryz.f105.body) := by kernel_rfl
  rw [HTL.out] at EQ hN
  rw [EQ]
  clear EQ HTL
  obtain ⟨cc, hcc⟩ : ∃ cc, cc = zL (nM Tryz.f105.body) := ⟨_, rfl⟩
  rw [← hcc]
  simp only [n5, n4, n3, n2, n1, nxT, zR, zL, nN, nM, nE, zT, zE, zI, Tryz.f105, Option.getD_some] at hcc
  subst hcc
  have HN := hid hN
  rw [HLN.out] at hD
  obtain ⟨f, HF⟩ : ∃ f : Nat, Hid (e0 + D = f) := ⟨_, rfl⟩
  rw [HF.out] at hD hnd hp ⊢
  have f31 : f ≤ 3000 := by omega
  clear hN h H
  have HND := hid hnd
  have CP : Hid (∀ w, Calls Tryz.prog 182 #[sv src, .int .i64 (f : Int)] w fun e w' => e = .returned (.bool false) ∧ w' = w) := fun w => by
    have := power_z (w := w) src f (by rw [HLN.out]; exact hD) (by rw [HLN.out]; omega) (i' := (f : Int)) rfl
    rw [decide_eq_false hp] at this
    exact this
  have eL : e0 + L = f := by
    have := HF.out
    omega
  rw [eL] at HN
  clear hnd hp hL eL
  by_cases hf1 : f + 1 < LN
  · obtain ⟨x0, hx0⟩ : ∃ c, src[f]? = some c := ⟨src[f]'(by rw [HLN.out]; omega), by simp⟩
    have hix0 := fun w => run_index_str src f f rfl hx0 w
    by_cases h46 : x0 = 46
    · replace hix0 : ∀ w, (Instr.index 9 (sv src) (.int .i64 (f : Int))).run Tryz.prog w = .ok (.int .u8 46) w := by rw [h46] at hix0; exact hix0
      obtain ⟨x, hx⟩ : ∃ c, src[f + 1]? = some c := ⟨src[f + 1]'(by rw [HLN.out]; exact hf1), by simp⟩
      have hix1 := fun w => run_index_str src (f + 1) ((f : Int) + 1) (by omega) hx w
      have CD : Hid (∀ w, Calls Tryz.prog 181 #[.int .u8 (x.toNat : Nat)] w fun e w' => e = .returned (.bool false) ∧ w' = w) := fun w => by
        have := digit_z (w := w) x
        rw [show isDig x = false by
          have z : ¬ (isDig x = true) := fun z => HND.out ⟨by rw [hx0, h46], by rw [hd_some hx]; exact z⟩
          simpa using z] at this
        exact this
      obtain ⟨xn, HXN⟩ : ∃ cn, Hid (x.toNat = cn) := ⟨_, rfl⟩
      rw [HXN.out] at hix1 CD
      clear hx hx0 h46
      go_wp2_with fail
      refine (CD.out _).mono ?_
      rintro e1 w1 ⟨rfl, hw⟩
      rw [hw]
      clear hw w1 CD hix0 hix1
      go_wp2_with fail
      refine (CP.out _).mono ?_
      rintro e9 w9 ⟨rfl, hw⟩
      rw [hw]
      clear hw w9 CP
      go_wp2_with fail
      exact HN.out _ ⟨by kernel_rfl, by kernel_rfl, by kernel_rfl, by kernel_rfl, by kernel_rfl, by kernel_rfl, rfl⟩
    · obtain ⟨xn, HXN⟩ : ∃ cn, Hid (x0.toNat = cn) := ⟨_, rfl⟩
      rw [HXN.out] at hix0
      have b46 : ((xn : Int) == 46) = false := u8b HXN.out 46 h46
      clear hx0 h46
      go_wp2_with fail
      refine (CP.out _).mono ?_
      rintro e9 w9 ⟨rfl, hw⟩
      rw [hw]
      clear hw w9 CP
      go_wp2_with fail
      exact HN.out _ ⟨by kernel_rfl, by kernel_rfl, by kernel_rfl, by kernel_rfl, by kernel_rfl, by kernel_rfl, rfl⟩
  · have bf : ¬ ((f : Int) + 1 < (LN : Int)) := by omega
    go_wp2_with fail
    refine (CP.out _).mono ?_
    rintro e9 w9 ⟨rfl, hw⟩
    rw [hw]
    clear hw w9 CP
    go_wp2_with fail
    exact HN.out _ ⟨by kernel_rfl, by kernel_rfl, by kernel_rfl, by kernel_rfl, by kernel_rfl, by kernel_rfl, rfl⟩
end
end Go.Proofs.Qxb6500574aGreatDoor
