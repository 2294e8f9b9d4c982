/-
  THE WALKS of numm: add.
-/
import Derived.Test.Qxb6500574aGreatDoorZA3
namespace Go.Proofs.Qxb6500574aGreatDoor
open Go Go.RowKit
set_option linter.unusedVariables false
set_option linter.unusedSimpArgs false
/-- the end of add -/
def finS (sa sb : Bool) (A B : Nat) (e : Int) (st : Bool) : Nat :=
  if sa = sb then packM sa (A + B) e st
  else if A = B ∧ st = false then 0
  else if A < B then packM sb (B - A) e false
  else if st then packM sa (A - B - 1) e true
  else packM sa (A - B) e false
theorem addS_1 {sa sb : Bool} {ma mb : Nat} {ea eb : Int} {d : Nat} (hd : ea - eb = (d : Int)) (h : d ≤ 10) : addS sa ma ea sb mb eb = finS sa sb (ma * 2 ^ d) mb eb false := by
  unfold addS finS
  rw [show (ea - eb).toNat = d by omega]
  simp only [if_pos h]
theorem addS_2 {sa sb : Bool} {ma mb : Nat} {ea eb : Int} {d g : Nat} (hd : ea - eb = (d : Int)) (h : ¬ d ≤ 10) (hg : d - 10 = g) (h64 : 64 ≤ g) : addS sa ma ea sb mb eb = finS sa sb (ma * 1024) 0 (ea - 10) true := by
  unfold addS finS
  rw [show (ea - eb).toNat = d by omega]
  simp only [if_neg h, hg, if_pos h64]
theorem addS_3 {sa sb : Bool} {ma mb : Nat} {ea eb : Int} {d g : Nat} (hd : ea - eb = (d : Int)) (h : ¬ d ≤ 10) (hg : d - 10 = g) (h64 : ¬ 64 ≤ g) : addS sa ma ea sb mb eb = finS sa sb (ma * 1024) (mb / 2 ^ g) (ea - 10) (decide (mb % 2 ^ g ≠ 0)) := by
  unfold addS finS
  rw [show (ea - eb).toNat = d by omega]
  simp only [if_neg h, hg, if_neg h64]
theorem and_both {a b : Nat} (ha : u64 a) (hb : u64 b) (za : isZeroM a = true) (zb : isZeroM b = true) : bits .and .u64 (a : Int) (b : Int) = ((if negM a && negM b then sgnM else 0 : Nat) : Int) := by
  unfold isZeroM absM at za zb
  have za := of_decide_eq_true za
  have zb := of_decide_eq_true zb
  unfold u64 at ha hb
  have ea : a = 0 ∨ a = 9223372036854775808 := by omega
  have eb : b = 0 ∨ b = 9223372036854775808 := by omega
  rcases ea with ea | ea <;> rcases eb with eb | eb <;> subst ea <;> subst eb <;> decide
/-- a finite word that is not zero -/
structure FinP (m : Nat) (e : Int) : Prop where
  lo : 1 ≤ m
  hi : m < 9007199254740992
  e1 : -1074 ≤ e
  e2 : e ≤ 971
theorem fin_parts {x : Nat} (h : u64 x) (hn : isNanM x = false) (hi : isInfM x = false) (hz : isZeroM x = false) : FinP (partsM x).1 (partsM x).2 := by
  unfold isNanM at hn
  unfold isInfM at hi
  unfold isZeroM at hz
  have hn := of_decide_eq_false hn
  have hi := of_decide_eq_false hi
  have hz := of_decide_eq_false hz
  obtain ⟨c, _⟩ := parts_canon h (by unfold infM at *; omega) hz
  have := c.nz
  exact ⟨by omega, c.lt, c.lo, c.hi⟩
theorem fin_nrm {x : Nat} (h : u64 x) (hn : isNanM x = false) (hi : isInfM x = false) (hz : isZeroM x = false) : -1074 < (partsM x).2 → 4503599627370496 ≤ (partsM x).1 := by
  unfold isNanM at hn
  unfold isInfM at hi
  unfold isZeroM at hz
  have hn := of_decide_eq_false hn
  have hi := of_decide_eq_false hi
  have hz := of_decide_eq_false hz
  exact (parts_canon h (by unfold infM at *; omega) hz).1.nm
/-- what pack answers, the sign at hand as it lies in the frame -/
def PkC (s : Nat) (neg : Bool) : Prop := ∀ (W : World) (man : Nat) (ex : Int) (st : Bool), u64 man → -100000 ≤ ex → ex ≤ 100000 → Calls Tryz.prog 202 #[.int .u64 s, .int .u64 man, .int .i64 ex, .bool st] W fun e w' => e = .returned (.int .u64 (packM neg man ex st)) ∧ w' = W
theorem pkC (neg : Bool) : PkC (signM neg) neg := fun W man ex st h1 h2 h3 => pack_m h1 h2 h3 st
theorem sg_eq {na nb : Bool} : (((signM na : Nat) : Int) == ((signM nb : Nat) : Int)) = decide (na = nb) := by cases na <;> cases nb <;> decide
section
variable {w : World}
set_option maxRecDepth 100000
set_option maxHeartbeats 4000000
theorem add_m {a c : Nat} (h : u64 a) (h2 : u64 c) : Calls Tryz.prog 195 #[.int .u64 a, .int .u64 c] w fun e w' => e = .returned (.int .u64 (addM a c)) ∧ w' = w := by
  have HN : Hid (Calls Tryz.prog 192 #[.int .u64 a, .int .u64 c] w fun e w' => e = .returned (.bool (isNanM a || isNanM c)) ∧ w' = w) := anyNaN_m h h2
  have HZ : Hid (Calls Tryz.prog 193 #[.int .u64 a, .int .u64 c] w fun e w' => e = .returned (.bool (isZeroM a && isZeroM c)) ∧ w' = w) := bothZero_m h h2
  have HI1 : Hid (Calls Tryz.prog 253 #[.int .u64 a] w fun e w' => e = .returned (.bool (isInfM a)) ∧ w' = w) := isInf_m h
  have HI2 : Hid (Calls Tryz.prog 253 #[.int .u64 c] w fun e w' => e = .returned (.bool (isInfM c)) ∧ w' = w) := isInf_m h2
  have HZ1 : Hid (Calls Tryz.prog 254 #[.int .u64 a] w fun e w' => e = .returned (.bool (isZeroM a)) ∧ w' = w) := isZero_m h
  have HZ2 : Hid (Calls Tryz.prog 254 #[.int .u64 c] w fun e w' => e = .returned (.bool (isZeroM c)) ∧ w' = w) := isZero_m h2
  have HP1 : Hid (Calls Tryz.prog 255 #[.int .u64 a] w fun e w' => e = .returned (.tuple #[.int .u64 (partsM a).1, .int .i64 (partsM a).2]) ∧ w' = w) := parts_m h
  have HP2 : Hid (Calls Tryz.prog 255 #[.int .u64 c] w fun e w' => e = .returned (.tuple #[.int .u64 (partsM c).1, .int .i64 (partsM c).2]) ∧ w' = w) := parts_m h2
  obtain ⟨R, HR⟩ : ∃ R, Hid (addM a c = R) := ⟨_, rfl⟩
  rw [HR.out]
  have HR1 : Hid (addM a c = R) := HR.out
  have s1 := bt_sg h
  have s2 := bt_sg h2
  unfold addM at HR
  cases hn : (isNanM a || isNanM c)
  · rw [hn] at HN HR
    rw [if_neg (by decide)] at HR
    cases i1 : isInfM a
    · rw [i1] at HI1 HR
      rw [if_neg (by decide)] at HR
      cases i2 : isInfM c
      · rw [i2] at HI2 HR
        rw [if_neg (by decide)] at HR
        cases zz : (isZeroM a && isZeroM c)
        · rw [zz] at HZ HR
          rw [if_neg (by decide)] at HR
          cases z1 : isZeroM a
          · rw [z1] at HZ1 HR
            rw [if_neg (by decide)] at HR
            cases z2 : isZeroM c
            · rw [z2] at HZ2 HR
              rw [if_neg (by decide)] at HR
              dsimp only at HR
              obtain ⟨n1, n2⟩ := (Bool.or_eq_false_iff).1 hn
              obtain ⟨pa1, pa2, pa3, pa4⟩ := fin_parts h n1 i1 z1
              obtain ⟨pc1, pc2, pc3, pc4⟩ := fin_parts h2 n2 i2 z2
              have NMa : -1074 < (partsM a).2 → 4503599627370496 ≤ (partsM a).1 := fin_nrm h n1 i1 z1
              have NMb : -1074 < (partsM c).2 → 4503599627370496 ≤ (partsM c).1 := fin_nrm h2 n2 i2 z2
              have HPa : PkC (signM (negM a)) (negM a) := pkC _
              have HPb : PkC (signM (negM c)) (negM c) := pkC _
              obtain ⟨sa, HSsa⟩ : ∃ s, Hid (signM (negM a) = s) := ⟨_, rfl⟩
              obtain ⟨sb, HSsb⟩ : ∃ s, Hid (signM (negM c) = s) := ⟨_, rfl⟩
              rw [HSsa.out] at s1 HPa
              rw [HSsb.out] at s2 HPb
              generalize negM a = na at *
              generalize negM c = nb at *
              obtain ⟨⟨ma, ea⟩, HM1⟩ : ∃ p, Hid (partsM a = p) := ⟨_, rfl⟩
              obtain ⟨⟨mb, eb⟩, HM2⟩ : ∃ p, Hid (partsM c = p) := ⟨_, rfl⟩
              rw [HM1.out] at HP1 HR pa1 pa2 pa3 pa4 NMa
              rw [HM2.out] at HP2 HR pc1 pc2 pc3 pc4 NMb
              simp only at pa1 pa2 pa3 pa4 pc1 pc2 pc3 pc4 HP1 HP2 HR NMa NMb
              clear HR1 h h2 hn i1 i2 zz z1 z2 n1 n2
              go_enter Tryz.func195, Tryz.ntmps195
              go_wp2_with fail
              refine HN.out.mono ?_
              rintro e w' ⟨rfl, hw⟩
              rw [hw]
              go_wp2_with fail
              refine HI1.out.mono ?_
              rintro e w' ⟨rfl, hw⟩
              rw [hw]
              go_wp2_with fail
              refine HI2.out.mono ?_
              rintro e w' ⟨rfl, hw⟩
              rw [hw]
              go_wp2_with fail
              refine HZ.out.mono ?_
              rintro e w' ⟨rfl, hw⟩
              rw [hw]
              go_wp2_with fail
              refine HZ1.out.mono ?_
              rintro e w' ⟨rfl, hw⟩
              rw [hw]
              go_wp2_with fail
              refine HZ2.out.mono ?_
              rintro e w' ⟨rfl, hw⟩
              rw [hw]
              go_wp2_with fail
              refine HP1.out.mono ?_
              rintro e w' ⟨rfl, hw⟩
              rw [hw]
              go_wp2_with fail
              refine HP2.out.mono ?_
              rintro e w' ⟨rfl, hw⟩
              rw [hw]
              by_cases hsw : ea < eb
              · rw [if_pos hsw] at HR
                have HQ : Hid (((sb : Int) == (sa : Int)) = decide (nb = na)) := by show _ = _; rw [← HSsb.out, ← HSsa.out]; exact sg_eq
                obtain ⟨d, hd⟩ : ∃ d : Nat, eb - ea = (d : Int) := ⟨(eb - ea).toNat, by omega⟩
                have dl : d ≤ 3000 := by omega
                by_cases h10 : d ≤ 10
                · obtain ⟨A, HA0⟩ : ∃ A, Hid (mb * 2 ^ d = A) := ⟨_, rfl⟩
                  have HF : Hid (finS nb na A ma ea false = R) := by show _ = _; rw [← HA0.out, ← addS_1 hd h10, HR.out]
                  have Al : A < 9223372036854775808 := by
                    rw [← HA0.out]
                    have h1 : 2 ^ d ≤ 2 ^ 10 := Nat.pow_le_pow_right (by decide) h10
                    have h2 := Nat.mul_le_mul_left mb h1
                    rw [show (2 : Nat) ^ 10 = 1024 by decide] at h2
                    omega
                  have hA : IntKind.u64.wrap ((mb : Int) * 2 ^ d) = (A : Int) := by
                    rw [show ((mb : Int) * 2 ^ d) = ((mb * 2 ^ d : Nat) : Int) by simp, HA0.out, IntKind.wrap_u64]
                    omega
                  clear HR
                  cases hs : decide (nb = na)
                  · have hs' : ¬ nb = na := of_decide_eq_false hs
                    rw [hs] at HQ
                    have hq := HQ.out
                    by_cases hab : A = ma
                    · have HV : Hid (R = 0) := by show _ = _; rw [← HF.out]; unfold finS; rw [if_neg hs', if_pos ⟨hab, rfl⟩]
                      have hb : ((A : Int) == ma) = true := by rw [beq_iff_eq]; omega
                      clear hab
                      go_wp2_with fail
                      go_ret
                      exact ⟨by rw [HV.out]; rfl, rfl⟩
                    · have hne : ¬ (A = ma ∧ false = false) := fun z => hab z.1
                      have hb : ((A : Int) == ma) = false := by rw [beq_eq_false_iff_ne]; omega
                      clear hab
                      by_cases hlt : A < ma
                      · obtain ⟨C, HC⟩ : ∃ C, Hid (ma - A = C) := ⟨_, rfl⟩
                        have hC : (ma : Int) - (A : Int) = (C : Int) := by rw [← HC.out]; omega
                        have HV : Hid (R = packM na C ea false) := by show _ = _; rw [← HF.out, ← HC.out]; unfold finS; rw [if_neg hs', if_neg hne, if_pos hlt]
                        have HP := HPa w C ea false (by have := HC.out; unfold u64; omega) (by omega) (by omega)
                        clear hne
                        go_wp2_with fail
                        refine HP.mono ?_
                        rintro e w' ⟨rfl, hw⟩
                        rw [hw]
                        go_wp2_with fail
                        go_ret
                        exact ⟨by rw [HV.out]; rfl, rfl⟩
                      · obtain ⟨C, HC⟩ : ∃ C, Hid (A - ma = C) := ⟨_, rfl⟩
                        have hC : (A : Int) - (ma : Int) = (C : Int) := by rw [← HC.out]; omega
                        have HV : Hid (R = packM nb C ea false) := by show _ = _; rw [← HF.out, ← HC.out]; unfold finS; rw [if_neg hs', if_neg hne, if_neg hlt]; rfl
                        have HP := HPb w C ea false (by have := HC.out; unfold u64; omega) (by omega) (by omega)
                        clear hne
                        go_wp2_with fail
                        refine HP.mono ?_
                        rintro e w' ⟨rfl, hw⟩
                        rw [hw]
                        go_wp2_with fail
                        go_ret
                        exact ⟨by rw [HV.out]; rfl, rfl⟩
                  · have hs' : nb = na := of_decide_eq_true hs
                    rw [hs] at HQ
                    have hq := HQ.out
                    obtain ⟨C, HC⟩ : ∃ C, Hid (A + ma = C) := ⟨_, rfl⟩
                    have hC : (A : Int) + (ma : Int) = (C : Int) := by rw [← HC.out]; rfl
                    have HV : Hid (R = packM nb C ea false) := by show _ = _; rw [← HF.out, ← HC.out]; unfold finS; rw [if_pos hs']
                    have HP := HPb w C ea false (by have := HC.out; unfold u64; omega) (by omega) (by omega)
                    clear hs'
                    go_wp2_with fail
                    refine HP.mono ?_
                    rintro e w' ⟨rfl, hw⟩
                    rw [hw]
                    go_wp2_with fail
                    go_ret
                    exact ⟨by rw [HV.out]; rfl, rfl⟩
                · obtain ⟨A, HA0⟩ : ∃ A, Hid (mb * 1024 = A) := ⟨_, rfl⟩
                  have hA : (mb : Int) * 1024 = (A : Int) := by rw [← HA0.out]; simp
                  have Al : A < 9223372036854775808 := by rw [← HA0.out]; omega
                  obtain ⟨g, hg⟩ : ∃ g : Nat, (d : Int) - 10 = (g : Int) := ⟨d - 10, by omega⟩
                  have hg' : d - 10 = g := by omega
                  have gl : g ≤ 3000 := by omega
                  obtain ⟨E, hE⟩ : ∃ E, eb - 10 = E := ⟨_, rfl⟩
                  have El1 : -2000 ≤ E := by omega
                  have El2 : E ≤ 2000 := by omega
                  have Ah : 4503599627370496 * 1024 ≤ A := by rw [← HA0.out]; have := NMb (by omega); omega
                  by_cases h64 : 64 ≤ g
                  · have HF : Hid (finS nb na A 0 E true = R) := by show _ = _; rw [← HA0.out, ← hE, ← addS_2 hd h10 hg' h64, HR.out]
                    clear HR hg'
                    cases hs : decide (nb = na)
                    · have hs' : ¬ nb = na := of_decide_eq_false hs
                      rw [hs] at HQ
                      have hq := HQ.out
                      obtain ⟨C, HC⟩ : ∃ C, Hid (A - 1 = C) := ⟨_, rfl⟩
                      have hC : (A : Int) - 1 = (C : Int) := by rw [← HC.out]; omega
                      have hb : ((A : Int) == 0) = false := by rw [beq_eq_false_iff_ne]; omega
                      have HV : Hid (R = packM nb C E true) := by show _ = _; rw [← HF.out, ← HC.out]; unfold finS; rw [if_neg hs', if_neg (fun z => Bool.noConfusion z.2), if_neg (by omega)]; rfl
                      have HP := HPb w C E true (by have := HC.out; unfold u64; omega) (by omega) (by omega)
                      go_wp2_with fail
                      refine HP.mono ?_
                      rintro e w' ⟨rfl, hw⟩
                      rw [hw]
                      go_wp2_with fail
                      go_ret
                      exact ⟨by rw [HV.out]; rfl, rfl⟩
                    · have hs' : nb = na := of_decide_eq_true hs
                      rw [hs] at HQ
                      have hq := HQ.out
                      have HV : Hid (R = packM nb A E true) := by show _ = _; rw [← HF.out]; unfold finS; rw [if_pos hs', Nat.add_zero]
                      have HP := HPb w A E true (by unfold u64; omega) (by omega) (by omega)
                      clear hs'
                      go_wp2_with fail
                      refine HP.mono ?_
                      rintro e w' ⟨rfl, hw⟩
                      rw [hw]
                      go_wp2_with fail
                      go_ret
                      exact ⟨by rw [HV.out]; rfl, rfl⟩
                  · obtain ⟨B, HB0⟩ : ∃ B, Hid (ma / 2 ^ g = B) := ⟨_, rfl⟩
                    have hB : (ma : Int) / 2 ^ g = (B : Int) := by rw [← HB0.out]; simp
                    have Bl : B ≤ ma := by rw [← HB0.out]; exact Nat.div_le_self _ _
                    have hp : 2 ^ g < 18446744073709551616 := Nat.lt_of_le_of_lt (Nat.pow_le_pow_right (by decide) (show g ≤ 63 by omega)) (by decide)
                    have hp1 : 1 ≤ 2 ^ g := Nat.pow_pos (by decide)
                    have hr := u64_and_nat ma (2 ^ g - 1) (by omega) (by omega)
                    rw [Nat.and_two_pow_sub_one_eq_mod, show ((2 ^ g - 1 : Nat) : Int) = ((2 ^ g : Nat) : Int) - 1 by omega] at hr
                    have HF : Hid (finS nb na A B E (decide (ma % 2 ^ g ≠ 0)) = R) := by show _ = _; rw [← HA0.out, ← HB0.out, ← hE, ← addS_3 hd h10 hg' h64, HR.out]
                    have hp0 : IntKind.u64.wrap (2 ^ g) = ((2 ^ g : Nat) : Int) := by rw [show ((2 : Int) ^ g) = ((2 ^ g : Nat) : Int) by simp, IntKind.wrap_u64]; omega
                    generalize ma % 2 ^ g = r at *
                    generalize 2 ^ g = p at *
                    clear HR hg'
                    cases hst : decide (r ≠ 0)
                    · have hr0 : r = 0 := by have := of_decide_eq_false hst; omega
                      rw [hst] at HF
                      subst hr0
                      cases hs : decide (nb = na)
                      · have hs' : ¬ nb = na := of_decide_eq_false hs
                        rw [hs] at HQ
                        have hq := HQ.out
                        by_cases hab : A = B
                        · have HV : Hid (R = 0) := by show _ = _; rw [← HF.out]; unfold finS; rw [if_neg hs', if_pos ⟨hab, rfl⟩]
                          have hb : ((A : Int) == B) = true := by rw [beq_iff_eq]; omega
                          clear hab
                          go_wp2_with fail
                          go_ret
                          exact ⟨by rw [HV.out]; rfl, rfl⟩
                        · have hne : ¬ (A = B ∧ false = false) := fun z => hab z.1
                          have hb : ((A : Int) == B) = false := by rw [beq_eq_false_iff_ne]; omega
                          clear hab
                          by_cases hlt : A < B
                          · exfalso; omega
                          · obtain ⟨C, HC⟩ : ∃ C, Hid (A - B = C) := ⟨_, rfl⟩
                            have hC : (A : Int) - (B : Int) = (C : Int) := by rw [← HC.out]; omega
                            have HV : Hid (R = packM nb C E false) := by show _ = _; rw [← HF.out, ← HC.out]; unfold finS; rw [if_neg hs', if_neg hne, if_neg hlt]; rfl
                            have HP := HPb w C E false (by have := HC.out; unfold u64; omega) (by omega) (by omega)
                            clear hne
                            go_wp2_with fail
                            refine HP.mono ?_
                            rintro e w' ⟨rfl, hw⟩
                            rw [hw]
                            go_wp2_with fail
                            go_ret
                            exact ⟨by rw [HV.out]; rfl, rfl⟩
                      · have hs' : nb = na := of_decide_eq_true hs
                        rw [hs] at HQ
                        have hq := HQ.out
                        obtain ⟨C, HC⟩ : ∃ C, Hid (A + B = C) := ⟨_, rfl⟩
                        have hC : (A : Int) + (B : Int) = (C : Int) := by rw [← HC.out]; rfl
                        have HV : Hid (R = packM nb C E false) := by show _ = _; rw [← HF.out, ← HC.out]; unfold finS; rw [if_pos hs']
                        have HP := HPb w C E false (by have := HC.out; unfold u64; omega) (by omega) (by omega)
                        clear hs'
                        go_wp2_with fail
                        refine HP.mono ?_
                        rintro e w' ⟨rfl, hw⟩
                        rw [hw]
                        go_wp2_with fail
                        go_ret
                        exact ⟨by rw [HV.out]; rfl, rfl⟩
                    · have hr0 : ((r : Int) != 0) = true := by have := of_decide_eq_true hst; rw [bne_iff_ne]; omega
                      rw [hst] at HF
                      cases hs : decide (nb = na)
                      · have hs' : ¬ nb = na := of_decide_eq_false hs
                        rw [hs] at HQ
                        have hq := HQ.out
                        by_cases hab : False
                        · exact hab.elim
                        · have hne : ¬ (A = B ∧ true = false) := fun z => Bool.noConfusion z.2
                          have hlt : B < A := by omega
                          obtain ⟨C0, HC0⟩ : ∃ C, Hid (A - B = C) := ⟨_, rfl⟩
                          have hC0 : (A : Int) - (B : Int) = (C0 : Int) := by rw [← HC0.out]; omega
                          obtain ⟨C, HC⟩ : ∃ C, Hid (C0 - 1 = C) := ⟨_, rfl⟩
                          have hC : (C0 : Int) - 1 = (C : Int) := by rw [← HC.out]; have := HC0.out; omega
                          have HV : Hid (R = packM nb C E true) := by show _ = _; rw [← HF.out, ← HC.out, ← HC0.out]; unfold finS; rw [if_neg hs', if_neg hne, if_neg (by omega)]; rfl
                          have HP := HPb w C E true (by have := HC.out; have := HC0.out; unfold u64; omega) (by omega) (by omega)
                          clear hne hab
                          cases hx : decide (A = B)
                          · have hb : ((A : Int) == B) = false := by rw [beq_eq_false_iff_ne]; omega
                            go_wp2_with fail
                            refine HP.mono ?_
                            rintro e w' ⟨rfl, hw⟩
                            rw [hw]
                            go_wp2_with fail
                            go_ret
                            exact ⟨by rw [HV.out]; rfl, rfl⟩
                          · exfalso
                            have := of_decide_eq_true hx
                            omega
                      · have hs' : nb = na := of_decide_eq_true hs
                        rw [hs] at HQ
                        have hq := HQ.out
                        obtain ⟨C, HC⟩ : ∃ C, Hid (A + B = C) := ⟨_, rfl⟩
                        have hC : (A : Int) + (B : Int) = (C : Int) := by rw [← HC.out]; rfl
                        have HV : Hid (R = packM nb C E true) := by show _ = _; rw [← HF.out, ← HC.out]; unfold finS; rw [if_pos hs']
                        have HP := HPb w C E true (by have := HC.out; unfold u64; omega) (by omega) (by omega)
                        clear hs'
                        go_wp2_with fail
                        refine HP.mono ?_
                        rintro e w' ⟨rfl, hw⟩
                        rw [hw]
                        go_wp2_with fail
                        go_ret
                        exact ⟨by rw [HV.out]; rfl, rfl⟩
              · rw [if_neg hsw] at HR
                have HQ : Hid (((sa : Int) == (sb : Int)) = decide (na = nb)) := by show _ = _; rw [← HSsa.out, ← HSsb.out]; exact sg_eq
                obtain ⟨d, hd⟩ : ∃ d : Nat, ea - eb = (d : Int) := ⟨(ea - eb).toNat, by omega⟩
                have dl : d ≤ 3000 := by omega
                by_cases h10 : d ≤ 10
                · obtain ⟨A, HA0⟩ : ∃ A, Hid (ma * 2 ^ d = A) := ⟨_, rfl⟩
                  have HF : Hid (finS na nb A mb eb false = R) := by show _ = _; rw [← HA0.out, ← addS_1 hd h10, HR.out]
                  have Al : A < 9223372036854775808 := by
                    rw [← HA0.out]
                    have h1 : 2 ^ d ≤ 2 ^ 10 := Nat.pow_le_pow_right (by decide) h10
                    have h2 := Nat.mul_le_mul_left ma h1
                    rw [show (2 : Nat) ^ 10 = 1024 by decide] at h2
                    omega
                  have hA : IntKind.u64.wrap ((ma : Int) * 2 ^ d) = (A : Int) := by
                    rw [show ((ma : Int) * 2 ^ d) = ((ma * 2 ^ d : Nat) : Int) by simp, HA0.out, IntKind.wrap_u64]
                    omega
                  clear HR
                  cases hs : decide (na = nb)
                  · have hs' : ¬ na = nb := of_decide_eq_false hs
                    rw [hs] at HQ
                    have hq := HQ.out
                    by_cases hab : A = mb
                    · have HV : Hid (R = 0) := by show _ = _; rw [← HF.out]; unfold finS; rw [if_neg hs', if_pos ⟨hab, rfl⟩]
                      have hb : ((A : Int) == mb) = true := by rw [beq_iff_eq]; omega
                      clear hab
                      go_wp2_with fail
                      go_ret
                      exact ⟨by rw [HV.out]; rfl, rfl⟩
                    · have hne : ¬ (A = mb ∧ false = false) := fun z => hab z.1
                      have hb : ((A : Int) == mb) = false := by rw [beq_eq_false_iff_ne]; omega
                      clear hab
                      by_cases hlt : A < mb
                      · obtain ⟨C, HC⟩ : ∃ C, Hid (mb - A = C) := ⟨_, rfl⟩
                        have hC : (mb : Int) - (A : Int) = (C : Int) := by rw [← HC.out]; omega
                        have HV : Hid (R = packM nb C eb false) := by show _ = _; rw [← HF.out, ← HC.out]; unfold finS; rw [if_neg hs', if_neg hne, if_pos hlt]
                        have HP := HPb w C eb false (by have := HC.out; unfold u64; omega) (by omega) (by omega)
                        clear hne
                        go_wp2_with fail
                        refine HP.mono ?_
                        rintro e w' ⟨rfl, hw⟩
                        rw [hw]
                        go_wp2_with fail
                        go_ret
                        exact ⟨by rw [HV.out]; rfl, rfl⟩
                      · obtain ⟨C, HC⟩ : ∃ C, Hid (A - mb = C) := ⟨_, rfl⟩
                        have hC : (A : Int) - (mb : Int) = (C : Int) := by rw [← HC.out]; omega
                        have HV : Hid (R = packM na C eb false) := by show _ = _; rw [← HF.out, ← HC.out]; unfold finS; rw [if_neg hs', if_neg hne, if_neg hlt]; rfl
                        have HP := HPa w C eb false (by have := HC.out; unfold u64; omega) (by omega) (by omega)
                        clear hne
                        go_wp2_with fail
                        refine HP.mono ?_
                        rintro e w' ⟨rfl, hw⟩
                        rw [hw]
                        go_wp2_with fail
                        go_ret
                        exact ⟨by rw [HV.out]; rfl, rfl⟩
                  · have hs' : na = nb := of_decide_eq_true hs
                    rw [hs] at HQ
                    have hq := HQ.out
                    obtain ⟨C, HC⟩ : ∃ C, Hid (A + mb = C) := ⟨_, rfl⟩
                    have hC : (A : Int) + (mb : Int) = (C : Int) := by rw [← HC.out]; rfl
                    have HV : Hid (R = packM na C eb false) := by show _ = _; rw [← HF.out, ← HC.out]; unfold finS; rw [if_pos hs']
                    have HP := HPa w C eb false (by have := HC.out; unfold u64; omega) (by omega) (by omega)
                    clear hs'
                    go_wp2_with fail
                    refine HP.mono ?_
                    rintro e w' ⟨rfl, hw⟩
                    rw [hw]
                    go_wp2_with fail
                    go_ret
                    exact ⟨by rw [HV.out]; rfl, rfl⟩
                · obtain ⟨A, HA0⟩ : ∃ A, Hid (ma * 1024 = A) := ⟨_, rfl⟩
                  have hA : (ma : Int) * 1024 = (A : Int) := by rw [← HA0.out]; simp
                  have Al : A < 9223372036854775808 := by rw [← HA0.out]; omega
                  obtain ⟨g, hg⟩ : ∃ g : Nat, (d : Int) - 10 = (g : Int) := ⟨d - 10, by omega⟩
                  have hg' : d - 10 = g := by omega
                  have gl : g ≤ 3000 := by omega
                  obtain ⟨E, hE⟩ : ∃ E, ea - 10 = E := ⟨_, rfl⟩
                  have El1 : -2000 ≤ E := by omega
                  have El2 : E ≤ 2000 := by omega
                  have Ah : 4503599627370496 * 1024 ≤ A := by rw [← HA0.out]; have := NMa (by omega); omega
                  by_cases h64 : 64 ≤ g
                  · have HF : Hid (finS na nb A 0 E true = R) := by show _ = _; rw [← HA0.out, ← hE, ← addS_2 hd h10 hg' h64, HR.out]
                    clear HR hg'
                    cases hs : decide (na = nb)
                    · have hs' : ¬ na = nb := of_decide_eq_false hs
                      rw [hs] at HQ
                      have hq := HQ.out
                      obtain ⟨C, HC⟩ : ∃ C, Hid (A - 1 = C) := ⟨_, rfl⟩
                      have hC : (A : Int) - 1 = (C : Int) := by rw [← HC.out]; omega
                      have hb : ((A : Int) == 0) = false := by rw [beq_eq_false_iff_ne]; omega
                      have HV : Hid (R = packM na C E true) := by show _ = _; rw [← HF.out, ← HC.out]; unfold finS; rw [if_neg hs', if_neg (fun z => Bool.noConfusion z.2), if_neg (by omega)]; rfl
                      have HP := HPa w C E true (by have := HC.out; unfold u64; omega) (by omega) (by omega)
                      go_wp2_with fail
                      refine HP.mono ?_
                      rintro e w' ⟨rfl, hw⟩
                      rw [hw]
                      go_wp2_with fail
                      go_ret
                      exact ⟨by rw [HV.out]; rfl, rfl⟩
                    · have hs' : na = nb := of_decide_eq_true hs
                      rw [hs] at HQ
                      have hq := HQ.out
                      have HV : Hid (R = packM na A E true) := by show _ = _; rw [← HF.out]; unfold finS; rw [if_pos hs', Nat.add_zero]
                      have HP := HPa w A E true (by unfold u64; omega) (by omega) (by omega)
                      clear hs'
                      go_wp2_with fail
                      refine HP.mono ?_
                      rintro e w' ⟨rfl, hw⟩
                      rw [hw]
                      go_wp2_with fail
                      go_ret
                      exact ⟨by rw [HV.out]; rfl, rfl⟩
                  · obtain ⟨B, HB0⟩ : ∃ B, Hid (mb / 2 ^ g = B) := ⟨_, rfl⟩
                    have hB : (mb : Int) / 2 ^ g = (B : Int) := by rw [← HB0.out]; simp
                    have Bl : B ≤ mb := by rw [← HB0.out]; exact Nat.div_le_self _ _
                    have hp : 2 ^ g < 18446744073709551616 := Nat.lt_of_le_of_lt (Nat.pow_le_pow_right (by decide) (show g ≤ 63 by omega)) (by decide)
                    have hp1 : 1 ≤ 2 ^ g := Nat.pow_pos (by decide)
                    have hr := u64_and_nat mb (2 ^ g - 1) (by omega) (by omega)
                    rw [Nat.and_two_pow_sub_one_eq_mod, show ((2 ^ g - 1 : Nat) : Int) = ((2 ^ g : Nat) : Int) - 1 by omega] at hr
                    have HF : Hid (finS na nb A B E (decide (mb % 2 ^ g ≠ 0)) = R) := by show _ = _; rw [← HA0.out, ← HB0.out, ← hE, ← addS_3 hd h10 hg' h64, HR.out]
                    have hp0 : IntKind.u64.wrap (2 ^ g) = ((2 ^ g : Nat) : Int) := by rw [show ((2 : Int) ^ g) = ((2 ^ g : Nat) : Int) by simp, IntKind.wrap_u64]; omega
                    generalize mb % 2 ^ g = r at *
                    generalize 2 ^ g = p at *
                    clear HR hg'
                    cases hst : decide (r ≠ 0)
                    · have hr0 : r = 0 := by have := of_decide_eq_false hst; omega
                      rw [hst] at HF
                      subst hr0
                      cases hs : decide (na = nb)
                      · have hs' : ¬ na = nb := of_decide_eq_false hs
                        rw [hs] at HQ
                        have hq := HQ.out
                        by_cases hab : A = B
                        · have HV : Hid (R = 0) := by show _ = _; rw [← HF.out]; unfold finS; rw [if_neg hs', if_pos ⟨hab, rfl⟩]
                          have hb : ((A : Int) == B) = true := by rw [beq_iff_eq]; omega
                          clear hab
                          go_wp2_with fail
                          go_ret
                          exact ⟨by rw [HV.out]; rfl, rfl⟩
                        · have hne : ¬ (A = B ∧ false = false) := fun z => hab z.1
                          have hb : ((A : Int) == B) = false := by rw [beq_eq_false_iff_ne]; omega
                          clear hab
                          by_cases hlt : A < B
                          · exfalso; omega
                          · obtain ⟨C, HC⟩ : ∃ C, Hid (A - B = C) := ⟨_, rfl⟩
                            have hC : (A : Int) - (B : Int) = (C : Int) := by rw [← HC.out]; omega
                            have HV : Hid (R = packM na C E false) := by show _ = _; rw [← HF.out, ← HC.out]; unfold finS; rw [if_neg hs', if_neg hne, if_neg hlt]; rfl
                            have HP := HPa w C E false (by have := HC.out; unfold u64; omega) (by omega) (by omega)
                            clear hne
                            go_wp2_with fail
                            refine HP.mono ?_
                            rintro e w' ⟨rfl, hw⟩
                            rw [hw]
                            go_wp2_with fail
                            go_ret
                            exact ⟨by rw [HV.out]; rfl, rfl⟩
                      · have hs' : na = nb := of_decide_eq_true hs
                        rw [hs] at HQ
                        have hq := HQ.out
                        obtain ⟨C, HC⟩ : ∃ C, Hid (A + B = C) := ⟨_, rfl⟩
                        have hC : (A : Int) + (B : Int) = (C : Int) := by rw [← HC.out]; rfl
                        have HV : Hid (R = packM na C E false) := by show _ = _; rw [← HF.out, ← HC.out]; unfold finS; rw [if_pos hs']
                        have HP := HPa w C E false (by have := HC.out; unfold u64; omega) (by omega) (by omega)
                        clear hs'
                        go_wp2_with fail
                        refine HP.mono ?_
                        rintro e w' ⟨rfl, hw⟩
                        rw [hw]
                        go_wp2_with fail
                        go_ret
                        exact ⟨by rw [HV.out]; rfl, rfl⟩
                    · have hr0 : ((r : Int) != 0) = true := by have := of_decide_eq_true hst; rw [bne_iff_ne]; omega
                      rw [hst] at HF
                      cases hs : decide (na = nb)
                      · have hs' : ¬ na = nb := of_decide_eq_false hs
                        rw [hs] at HQ
                        have hq := HQ.out
                        by_cases hab : False
                        · exact hab.elim
                        · have hne : ¬ (A = B ∧ true = false) := fun z => Bool.noConfusion z.2
                          have hlt : B < A := by omega
                          obtain ⟨C0, HC0⟩ : ∃ C, Hid (A - B = C) := ⟨_, rfl⟩
                          have hC0 : (A : Int) - (B : Int) = (C0 : Int) := by rw [← HC0.out]; omega
                          obtain ⟨C, HC⟩ : ∃ C, Hid (C0 - 1 = C) := ⟨_, rfl⟩
                          have hC : (C0 : Int) - 1 = (C : Int) := by rw [← HC.out]; have := HC0.out; omega
                          have HV : Hid (R = packM na C E true) := by show _ = _; rw [← HF.out, ← HC.out, ← HC0.out]; unfold finS; rw [if_neg hs', if_neg hne, if_neg (by omega)]; rfl
                          have HP := HPa w C E true (by have := HC.out; have := HC0.out; unfold u64; omega) (by omega) (by omega)
                          clear hne hab
                          cases hx : decide (A = B)
                          · have hb : ((A : Int) == B) = false := by rw [beq_eq_false_iff_ne]; omega
                            go_wp2_with fail
                            refine HP.mono ?_
                            rintro e w' ⟨rfl, hw⟩
                            rw [hw]
                            go_wp2_with fail
                            go_ret
                            exact ⟨by rw [HV.out]; rfl, rfl⟩
                          · exfalso
                            have := of_decide_eq_true hx
                            omega
                      · have hs' : na = nb := of_decide_eq_true hs
                        rw [hs] at HQ
                        have hq := HQ.out
                        obtain ⟨C, HC⟩ : ∃ C, Hid (A + B = C) := ⟨_, rfl⟩
                        have hC : (A : Int) + (B : Int) = (C : Int) := by rw [← HC.out]; rfl
                        have HV : Hid (R = packM na C E true) := by show _ = _; rw [← HF.out, ← HC.out]; unfold finS; rw [if_pos hs']
                        have HP := HPa w C E true (by have := HC.out; unfold u64; omega) (by omega) (by omega)
                        clear hs'
                        go_wp2_with fail
                        refine HP.mono ?_
                        rintro e w' ⟨rfl, hw⟩
                        rw [hw]
                        go_wp2_with fail
                        go_ret
                        exact ⟨by rw [HV.out]; rfl, rfl⟩
            · rw [z2] at HZ2 HR
              rw [if_pos rfl] at HR
              go_enter Tryz.func195, Tryz.ntmps195
              go_wp2_with fail
              refine HN.out.mono ?_
              rintro e w' ⟨rfl, hw⟩
              rw [hw]
              go_wp2_with fail
              refine HI1.out.mono ?_
              rintro e w' ⟨rfl, hw⟩
              rw [hw]
              go_wp2_with fail
              refine HI2.out.mono ?_
              rintro e w' ⟨rfl, hw⟩
              rw [hw]
              go_wp2_with fail
              refine HZ.out.mono ?_
              rintro e w' ⟨rfl, hw⟩
              rw [hw]
              go_wp2_with fail
              refine HZ1.out.mono ?_
              rintro e w' ⟨rfl, hw⟩
              rw [hw]
              go_wp2_with fail
              refine HZ2.out.mono ?_
              rintro e w' ⟨rfl, hw⟩
              rw [hw]
              go_wp2_with fail
              go_ret
              exact ⟨by rw [← HR.out]; rfl, rfl⟩
          · rw [z1] at HZ1 HR
            rw [if_pos rfl] at HR
            go_enter Tryz.func195, Tryz.ntmps195
            go_wp2_with fail
            refine HN.out.mono ?_
            rintro e w' ⟨rfl, hw⟩
            rw [hw]
            go_wp2_with fail
            refine HI1.out.mono ?_
            rintro e w' ⟨rfl, hw⟩
            rw [hw]
            go_wp2_with fail
            refine HI2.out.mono ?_
            rintro e w' ⟨rfl, hw⟩
            rw [hw]
            go_wp2_with fail
            refine HZ.out.mono ?_
            rintro e w' ⟨rfl, hw⟩
            rw [hw]
            go_wp2_with fail
            refine HZ1.out.mono ?_
            rintro e w' ⟨rfl, hw⟩
            rw [hw]
            go_wp2_with fail
            go_ret
            exact ⟨by rw [← HR.out]; rfl, rfl⟩
        · rw [zz] at HZ HR
          rw [if_pos rfl] at HR
          obtain ⟨z1, z2⟩ := (Bool.and_eq_true_iff).1 zz
          have hb := and_both h h2 z1 z2
          rw [HR.out] at hb
          go_enter Tryz.func195, Tryz.ntmps195
          go_wp2_with fail
          refine HN.out.mono ?_
          rintro e w' ⟨rfl, hw⟩
          rw [hw]
          go_wp2_with fail
          refine HI1.out.mono ?_
          rintro e w' ⟨rfl, hw⟩
          rw [hw]
          go_wp2_with fail
          refine HI2.out.mono ?_
          rintro e w' ⟨rfl, hw⟩
          rw [hw]
          go_wp2_with fail
          refine HZ.out.mono ?_
          rintro e w' ⟨rfl, hw⟩
          rw [hw]
          go_wp2_with fail
          go_ret
          exact ⟨rfl, rfl⟩
      · rw [i2] at HI2 HR
        rw [if_pos rfl] at HR
        go_enter Tryz.func195, Tryz.ntmps195
        go_wp2_with fail
        refine HN.out.mono ?_
        rintro e w' ⟨rfl, hw⟩
        rw [hw]
        go_wp2_with fail
        refine HI1.out.mono ?_
        rintro e w' ⟨rfl, hw⟩
        rw [hw]
        go_wp2_with fail
        refine HI2.out.mono ?_
        rintro e w' ⟨rfl, hw⟩
        rw [hw]
        go_wp2_with fail
        go_ret
        exact ⟨by rw [← HR.out]; rfl, rfl⟩
    · rw [i1] at HI1 HR
      rw [if_pos rfl] at HR
      cases i2 : isInfM c
      · rw [i2] at HI2 HR
        rw [if_neg (fun z => Bool.noConfusion z.1)] at HR
        go_enter Tryz.func195, Tryz.ntmps195
        go_wp2_with fail
        refine HN.out.mono ?_
        rintro e w' ⟨rfl, hw⟩
        rw [hw]
        go_wp2_with fail
        refine HI1.out.mono ?_
        rintro e w' ⟨rfl, hw⟩
        rw [hw]
        go_wp2_with fail
        refine HI2.out.mono ?_
        rintro e w' ⟨rfl, hw⟩
        rw [hw]
        go_wp2_with fail
        go_ret
        exact ⟨by rw [← HR.out]; rfl, rfl⟩
      · rw [i2] at HI2 HR
        by_cases hac : a = c
        · rw [if_neg (fun z => z.2 hac)] at HR
          have hb : ((a : Int) != c) = false := by rw [hac]; simp
          clear hac
          go_enter Tryz.func195, Tryz.ntmps195
          go_wp2_with fail
          refine HN.out.mono ?_
          rintro e w' ⟨rfl, hw⟩
          rw [hw]
          go_wp2_with fail
          refine HI1.out.mono ?_
          rintro e w' ⟨rfl, hw⟩
          rw [hw]
          go_wp2_with fail
          refine HI2.out.mono ?_
          rintro e w' ⟨rfl, hw⟩
          rw [hw]
          go_wp2_with fail
          go_ret
          exact ⟨by rw [← HR.out]; rfl, rfl⟩
        · rw [if_pos ⟨rfl, hac⟩] at HR
          have hb : ((a : Int) != c) = true := by rw [bne_iff_ne]; omega
          clear hac
          go_enter Tryz.func195, Tryz.ntmps195
          go_wp2_with fail
          refine HN.out.mono ?_
          rintro e w' ⟨rfl, hw⟩
          rw [hw]
          go_wp2_with fail
          refine HI1.out.mono ?_
          rintro e w' ⟨rfl, hw⟩
          rw [hw]
          go_wp2_with fail
          refine HI2.out.mono ?_
          rintro e w' ⟨rfl, hw⟩
          rw [hw]
          go_wp2_with fail
          go_ret
          exact ⟨by rw [← HR.out]; rfl, rfl⟩
  · rw [hn] at HN HR
    rw [if_pos rfl] at HR
    go_enter Tryz.func195, Tryz.ntmps195
    go_wp2_with fail
    refine HN.out.mono ?_
    rintro e w' ⟨rfl, hw⟩
    rw [hw]
    go_wp2_with fail
    go_ret
    exact ⟨by rw [← HR.out]; rfl, rfl⟩
end
end Go.Proofs.Qxb6500574aGreatDoor
