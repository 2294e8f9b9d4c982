/-
  THE WALKS of numm: Format.
-/
import Derived.Test.Qxb6500574aGreatDoorZA8
namespace Go.Proofs.Qxb6500574aGreatDoor
open Go Go.RowKit
set_option linter.unusedVariables false
set_option linter.unusedSimpArgs false
theorem trail_even {m k : Nat} (h0 : m ≠ 0) (h : m < 2 ^ 53) (hk : k ≤ trail 53 m) : m / 2 ^ k % 2 = 0 ↔ k < trail 53 m := by
  have h1 : m % 2 ^ k = 0 := (trail_dvd h0 h).2 hk
  have h2 : m % 2 ^ (k + 1) = 0 ↔ k + 1 ≤ trail 53 m := trail_dvd h0 h
  rw [Nat.pow_succ, Nat.mod_mul, h1, Nat.zero_add] at h2
  have hp : 0 < 2 ^ k := Nat.pow_pos (by decide)
  rw [show (k < trail 53 m) = (k + 1 ≤ trail 53 m) from rfl, ← h2]
  constructor
  · intro z; rw [z, Nat.mul_zero]
  · intro z
    rcases Nat.mul_eq_zero.1 z with y | y
    · omega
    · exact y
theorem itoa_len_all {i : Int} (h1 : -9007199254740992 ≤ i) (h2 : i ≤ 9007199254740992) : (itoaN i).length ≤ 21 := by
  unfold itoaN
  have := utoa_len i.natAbs
  have := utoa_len i.toNat
  split <;> simp <;> omega
section
variable {w : World}
set_option maxRecDepth 100000
set_option maxHeartbeats 4000000
theorem format_m {bn : Nat} {a : Nat} (h : u64 a) : Calls Tryz.prog 259 #[.pointer (some ⟨bn, 0, none⟩), .int .u64 a] w fun e w' => e = .returned (sv (fmtM a)) ∧ Fr (fun _ => False) w w' := by
  have HN : Hid (Calls Tryz.prog 258 #[.int .u64 a] w fun e w' => e = .returned (.bool (isNanM a)) ∧ w' = w) := isNaN_m h
  have HI1 : Hid (Calls Tryz.prog 253 #[.int .u64 a] w fun e w' => e = .returned (.bool (isInfM a)) ∧ w' = w) := isInf_m h
  have HZ1 : Hid (Calls Tryz.prog 254 #[.int .u64 a] w fun e w' => e = .returned (.bool (isZeroM a)) ∧ w' = w) := isZero_m h
  have HP1 : Hid (Calls Tryz.prog 255 #[.int .u64 a] w fun e w' => e = .returned (.tuple #[.int .u64 (partsM a).1, .int .i64 (partsM a).2]) ∧ w' = w) := parts_m h
  have HFR : Hid (Fr (fun _ => False) w w) := Fr.refl _ _
  obtain ⟨R, HR⟩ : ∃ R, Hid (fmtM a = R) := ⟨_, rfl⟩
  rw [HR.out]
  have sx := bt_sgne h
  unfold fmtM at HR
  dsimp only at HR
  cases hn : isNanM a
  · rw [hn] at HN HR
    rw [if_neg (by decide)] at HR
    cases i1 : isInfM a
    · rw [i1] at HI1 HR
      rw [if_neg (by decide)] at HR
      cases z1 : isZeroM a
      · rw [z1] at HZ1 HR
        rw [if_neg (by decide)] at HR
        obtain ⟨pa1, pa2, pa3, pa4⟩ := fin_parts h hn i1 z1
        clear hn i1 z1
        obtain ⟨⟨P, e0⟩, HM1⟩ : ∃ p, Hid (partsM a = p) := ⟨_, rfl⟩
        rw [HM1.out] at HP1 HR pa1 pa2 pa3 pa4
        simp only at pa1 pa2 pa3 pa4 HP1 HR
        have hP0 : P ≠ 0 := by omega
        have hP53 : P < 2 ^ 53 := Nat.lt_of_lt_of_le pa2 (by decide)
        have HTE : Hid (∀ k, k ≤ trail 53 P → (P / 2 ^ k % 2 = 0 ↔ k < trail 53 P)) := fun k hk => trail_even hP0 hP53 hk
        have htl := (trail_spec 53 P hP0 hP53).2.2
        obtain ⟨t, HT⟩ : ∃ t, Hid (trail 53 P = t) := ⟨_, rfl⟩
        rw [HT.out] at HTE htl HR
        obtain ⟨sg, HSG⟩ : ∃ s : Bs, Hid (s = if negM a then [45] else []) := ⟨_, rfl⟩
        rw [← HSG.out] at HR
        clear hP53 hP0
        cases hng : negM a
        · rw [hng] at sx HSG
          rw [if_neg (by decide)] at HSG
          have hsg := HSG.out
          subst hsg
          go_enter Tryz.func259, Tryz.ntmps259
          go_wp2_with fail
          refine HN.out.mono ?_
          rintro e w' ⟨rfl, hw⟩
          rw [hw]
          go_wp2_with fail
          refine HI1.out.mono ?_
          rintro e w' ⟨rfl, hw⟩
          rw [hw]
          go_wp2_with fail
          refine HZ1.out.mono ?_
          rintro e w' ⟨rfl, hw⟩
          rw [hw]
          go_wp2_with fail
          refine HP1.out.mono ?_
          rintro e w' ⟨rfl, hw⟩
          rw [hw]
          go_wp2_with fail
          go_loopw [6, 7] (fun g1 g2 wr => ∃ (k m : Nat) (e : Int), k ≤ t ∧ m < 9007199254740992 ∧ -1100 ≤ e ∧ e ≤ 1100 ∧ g1 = .int .u64 m ∧ g2 = .int .i64 e ∧ Hid (m = P / 2 ^ k ∧ e = e0 + k) ∧ wr = w) (fun _ g2 _ => (2000 - intOf g2).toNat)
          case atStart => exact ⟨0, P, e0, by omega, pa2, by omega, by omega, rfl, rfl, (by refine ⟨by simp, by simp⟩ : _ ∧ _), rfl⟩
          case round =>
            obtain ⟨k, m, e, hk, hml, he1, he2, rfl, rfl, HJ, rfl⟩ := hrel
            have o1 := bt_odd (a := m) (show m < 18446744073709551616 by omega)
            by_cases hlt : k < t
            · have hev : m % 2 = 0 := by
                rw [HJ.out.1]
                exact (HTE.out k hk).2 hlt
              rw [hev] at o1
              obtain ⟨M, hM⟩ : ∃ M : Nat, (m : Int) / 2 = (M : Int) := ⟨m / 2, by omega⟩
              have HM : Hid (m / 2 = M) := by show _ = _; omega
              have hMl : M < 9007199254740992 := by omega
              have he3 : e + 1 ≤ 1100 := by have := HJ.out.2; omega
              clear hev
              go_wp2_with fail
              refine ⟨⟨k + 1, M, e + 1, by omega, hMl, by omega, he3, rfl, rfl, ?_, trivial⟩, by simp [intOf]; omega⟩
              obtain ⟨e1, e2⟩ := HJ.out
              show _ ∧ _
              exact ⟨by rw [← HM.out, e1, Nat.pow_succ, Nat.div_div_eq_div_mul], by omega⟩
            · have hod : m % 2 = 1 := by
                have h1 := (HTE.out k hk)
                rw [← HJ.out.1] at h1
                omega
              rw [hod] at o1
              have hkt : k = t := by omega
              have HR2 : Hid ((if 0 ≤ e ∧ e < 53 ∧ m * 2 ^ e.toNat < 9007199254740992 then [] ++ utoaN (m * 2 ^ e.toNat) else [] ++ utoaN m ++ [112] ++ itoaN e) = R) := by
                show _ = _
                rw [← HR.out, ← hkt, ← HJ.out.1, ← HJ.out.2]
              have hm1 : 1 ≤ m := by omega
              clear HR HJ hkt hod hlt HTE
              have HUm : Hid (∀ W, Calls Tryz.prog 44 #[.int .u64 m] W fun e w' => e = .returned (sv (utoaN m)) ∧ Fr (fun _ => False) W w') := fun W => utoa_any m (by omega)
              have HIe : Hid (∀ W, Calls Tryz.prog 43 #[.int .i64 e] W fun e' w' => e' = .returned (sv (itoaN e)) ∧ Fr (fun _ => False) W w') := fun W => itoa_all (by omega) (by omega)
              by_cases hin : 0 ≤ e ∧ e < 53
              · obtain ⟨E, rfl⟩ : ∃ E : Nat, e = (E : Int) := ⟨e.toNat, by omega⟩
                have hE : E < 53 := by omega
                rw [show ((E : Int)).toNat = E from rfl] at HR2
                have hp1 : 1 ≤ 2 ^ E := Nat.pow_pos (by decide)
                obtain ⟨v, HV⟩ : ∃ v : Nat, Hid (m * 2 ^ E % 18446744073709551616 = v) := ⟨_, rfl⟩
                have hv : IntKind.u64.wrap ((m : Int) * 2 ^ E) = (v : Int) := by
                  rw [show ((m : Int) * 2 ^ E) = ((m * 2 ^ E : Nat) : Int) by simp, IntKind.wrap_u64, ← HV.out]
                  omega
                have vl : v < 18446744073709551616 := by rw [← HV.out]; omega
                obtain ⟨u, HU⟩ : ∃ u : Nat, Hid (v / 2 ^ E = u) := ⟨_, rfl⟩
                have hu : (v : Int) / 2 ^ E = (u : Int) := by rw [← HU.out]; simp
                by_cases hA : m * 2 ^ E < 9007199254740992
                · have ev : m * 2 ^ E = v := by rw [← HV.out, Nat.mod_eq_of_lt (by omega)]
                  have eu : u = m := by rw [← HU.out, ← ev]; exact Nat.mul_div_cancel _ (by omega)
                  subst eu
                  rw [ev] at HR2 hA
                  rw [if_pos ⟨by omega, by omega, hA⟩] at HR2
                  have g1 : decide (v < 9007199254740992) = true := decide_eq_true hA
                  have g2 : decide ((v : Int) < 9007199254740992) = true := decide_eq_true (by omega)
                  have HUv : Hid (∀ W, Calls Tryz.prog 44 #[.int .u64 v] W fun e w' => e = .returned (sv (utoaN v)) ∧ Fr (fun _ => False) W w') := fun W => utoa_any v (by omega)
                  have ul := utoa_len v
                  obtain ⟨x, HX⟩ : ∃ x, Hid (utoaN v = x) := ⟨_, rfl⟩
                  rw [HX.out] at HUv ul HR2
                  clear ev hA hp1
                  go_wp2_with fail
                  refine (HUv.out _).mono ?_
                  rintro e' w' ⟨rfl, hf⟩
                  have HF : Hid (Fr (fun _ => False) wr w') := hf
                  clear hf
                  go_wp2_with fail
                  go_ret
                  exact ⟨by rw [← HR2.out]; rfl, HF.out⟩
                · rw [if_neg (fun z => hA z.2.2)] at HR2
                  have hcase : (u = m ∧ ¬ v < 9007199254740992) ∨ u ≠ m := by
                    by_cases hl : m * 2 ^ E < 18446744073709551616
                    · have ev : m * 2 ^ E = v := by rw [← HV.out, Nat.mod_eq_of_lt hl]
                      refine .inl ⟨?_, by omega⟩
                      rw [← HU.out, ← ev]
                      exact Nat.mul_div_cancel _ (by omega)
                    · refine .inr fun z => ?_
                      have : u * 2 ^ E ≤ v := by rw [← HU.out]; exact Nat.div_mul_le_self _ _
                      rw [z] at this
                      omega
                  clear hA hp1
                  rcases hcase with ⟨eu, hge⟩ | hne
                  · subst eu
                    have g1 : decide (v < 9007199254740992) = false := decide_eq_false hge
                    have g2 : decide ((v : Int) < 9007199254740992) = false := decide_eq_false (by omega)
                    clear hge
                    have ul := utoa_len u
                    have il : (itoaN (E : Int)).length ≤ 21 := itoa_len_all (by omega) (by omega)
                    obtain ⟨x, HX⟩ : ∃ x, Hid (utoaN u = x) := ⟨_, rfl⟩
                    obtain ⟨y, HY⟩ : ∃ y, Hid (itoaN (E : Int) = y) := ⟨_, rfl⟩
                    rw [HX.out] at HUm ul HR2
                    rw [HY.out] at HIe il HR2
                    go_wp2_with fail
                    refine (HUm.out _).mono ?_
                    rintro e' w' ⟨rfl, hf⟩
                    have HF : Hid (Fr (fun _ => False) wr w') := hf
                    clear hf
                    go_wp2_with fail
                    refine (HIe.out _).mono ?_
                    rintro e' w2 ⟨rfl, hf⟩
                    have HF2 : Hid (Fr (fun _ => False) wr w2) := HF.out.trans hf (fun _ _ z => z)
                    clear hf
                    go_wp2_with fail
                    go_ret
                    refine ⟨?_, HF2.out⟩
                    rw [← HR2.out]
                    simp
                    apply ByteArray.ext
                    simp

                  · have g1 : ((u : Int) == m) = false := by rw [beq_eq_false_iff_ne]; omega
                    clear hne
                    have ul := utoa_len m
                    have il : (itoaN (E : Int)).length ≤ 21 := itoa_len_all (by omega) (by omega)
                    obtain ⟨x, HX⟩ : ∃ x, Hid (utoaN m = x) := ⟨_, rfl⟩
                    obtain ⟨y, HY⟩ : ∃ y, Hid (itoaN (E : Int) = y) := ⟨_, rfl⟩
                    rw [HX.out] at HUm ul HR2
                    rw [HY.out] at HIe il HR2
                    go_wp2_with fail
                    refine (HUm.out _).mono ?_
                    rintro e' w' ⟨rfl, hf⟩
                    have HF : Hid (Fr (fun _ => False) wr w') := hf
                    clear hf
                    go_wp2_with fail
                    refine (HIe.out _).mono ?_
                    rintro e' w2 ⟨rfl, hf⟩
                    have HF2 : Hid (Fr (fun _ => False) wr w2) := HF.out.trans hf (fun _ _ z => z)
                    clear hf
                    go_wp2_with fail
                    go_ret
                    refine ⟨?_, HF2.out⟩
                    rw [← HR2.out]
                    simp
                    apply ByteArray.ext
                    simp

              · rw [if_neg (fun z => hin ⟨z.1, z.2.1⟩)] at HR2
                have hin' : e < 0 ∨ 53 ≤ e := by omega
                clear hin
                rcases hin' with hin | hin
                · have ul := utoa_len m
                  have il : (itoaN e).length ≤ 21 := itoa_len_all (by omega) (by omega)
                  obtain ⟨x, HX⟩ : ∃ x, Hid (utoaN m = x) := ⟨_, rfl⟩
                  obtain ⟨y, HY⟩ : ∃ y, Hid (itoaN e = y) := ⟨_, rfl⟩
                  rw [HX.out] at HUm ul HR2
                  rw [HY.out] at HIe il HR2
                  go_wp2_with fail
                  refine (HUm.out _).mono ?_
                  rintro e' w' ⟨rfl, hf⟩
                  have HF : Hid (Fr (fun _ => False) wr w') := hf
                  clear hf
                  go_wp2_with fail
                  refine (HIe.out _).mono ?_
                  rintro e' w2 ⟨rfl, hf⟩
                  have HF2 : Hid (Fr (fun _ => False) wr w2) := HF.out.trans hf (fun _ _ z => z)
                  clear hf
                  go_wp2_with fail
                  go_ret
                  refine ⟨?_, HF2.out⟩
                  rw [← HR2.out]
                  simp
                  apply ByteArray.ext
                  simp

                · have hin2 : 0 ≤ e := by omega
                  have ul := utoa_len m
                  have il : (itoaN e).length ≤ 21 := itoa_len_all (by omega) (by omega)
                  obtain ⟨x, HX⟩ : ∃ x, Hid (utoaN m = x) := ⟨_, rfl⟩
                  obtain ⟨y, HY⟩ : ∃ y, Hid (itoaN e = y) := ⟨_, rfl⟩
                  rw [HX.out] at HUm ul HR2
                  rw [HY.out] at HIe il HR2
                  go_wp2_with fail
                  refine (HUm.out _).mono ?_
                  rintro e' w' ⟨rfl, hf⟩
                  have HF : Hid (Fr (fun _ => False) wr w') := hf
                  clear hf
                  go_wp2_with fail
                  refine (HIe.out _).mono ?_
                  rintro e' w2 ⟨rfl, hf⟩
                  have HF2 : Hid (Fr (fun _ => False) wr w2) := HF.out.trans hf (fun _ _ z => z)
                  clear hf
                  go_wp2_with fail
                  go_ret
                  refine ⟨?_, HF2.out⟩
                  rw [← HR2.out]
                  simp
                  apply ByteArray.ext
                  simp


        · rw [hng] at sx HSG
          rw [if_pos rfl] at HSG
          have hsg := HSG.out
          subst hsg
          go_enter Tryz.func259, Tryz.ntmps259
          go_wp2_with fail
          refine HN.out.mono ?_
          rintro e w' ⟨rfl, hw⟩
          rw [hw]
          go_wp2_with fail
          refine HI1.out.mono ?_
          rintro e w' ⟨rfl, hw⟩
          rw [hw]
          go_wp2_with fail
          refine HZ1.out.mono ?_
          rintro e w' ⟨rfl, hw⟩
          rw [hw]
          go_wp2_with fail
          refine HP1.out.mono ?_
          rintro e w' ⟨rfl, hw⟩
          rw [hw]
          go_wp2_with fail
          go_loopw [6, 7] (fun g1 g2 wr => ∃ (k m : Nat) (e : Int), k ≤ t ∧ m < 9007199254740992 ∧ -1100 ≤ e ∧ e ≤ 1100 ∧ g1 = .int .u64 m ∧ g2 = .int .i64 e ∧ Hid (m = P / 2 ^ k ∧ e = e0 + k) ∧ wr = w) (fun _ g2 _ => (2000 - intOf g2).toNat)
          case atStart => exact ⟨0, P, e0, by omega, pa2, by omega, by omega, rfl, rfl, (by refine ⟨by simp, by simp⟩ : _ ∧ _), rfl⟩
          case round =>
            obtain ⟨k, m, e, hk, hml, he1, he2, rfl, rfl, HJ, rfl⟩ := hrel
            have o1 := bt_odd (a := m) (show m < 18446744073709551616 by omega)
            by_cases hlt : k < t
            · have hev : m % 2 = 0 := by
                rw [HJ.out.1]
                exact (HTE.out k hk).2 hlt
              rw [hev] at o1
              obtain ⟨M, hM⟩ : ∃ M : Nat, (m : Int) / 2 = (M : Int) := ⟨m / 2, by omega⟩
              have HM : Hid (m / 2 = M) := by show _ = _; omega
              have hMl : M < 9007199254740992 := by omega
              have he3 : e + 1 ≤ 1100 := by have := HJ.out.2; omega
              clear hev
              go_wp2_with fail
              refine ⟨⟨k + 1, M, e + 1, by omega, hMl, by omega, he3, rfl, rfl, ?_, trivial⟩, by simp [intOf]; omega⟩
              obtain ⟨e1, e2⟩ := HJ.out
              show _ ∧ _
              exact ⟨by rw [← HM.out, e1, Nat.pow_succ, Nat.div_div_eq_div_mul], by omega⟩
            · have hod : m % 2 = 1 := by
                have h1 := (HTE.out k hk)
                rw [← HJ.out.1] at h1
                omega
              rw [hod] at o1
              have hkt : k = t := by omega
              have HR2 : Hid ((if 0 ≤ e ∧ e < 53 ∧ m * 2 ^ e.toNat < 9007199254740992 then [45] ++ utoaN (m * 2 ^ e.toNat) else [45] ++ utoaN m ++ [112] ++ itoaN e) = R) := by
                show _ = _
                rw [← HR.out, ← hkt, ← HJ.out.1, ← HJ.out.2]
              have hm1 : 1 ≤ m := by omega
              clear HR HJ hkt hod hlt HTE
              have HUm : Hid (∀ W, Calls Tryz.prog 44 #[.int .u64 m] W fun e w' => e = .returned (sv (utoaN m)) ∧ Fr (fun _ => False) W w') := fun W => utoa_any m (by omega)
              have HIe : Hid (∀ W, Calls Tryz.prog 43 #[.int .i64 e] W fun e' w' => e' = .returned (sv (itoaN e)) ∧ Fr (fun _ => False) W w') := fun W => itoa_all (by omega) (by omega)
              by_cases hin : 0 ≤ e ∧ e < 53
              · obtain ⟨E, rfl⟩ : ∃ E : Nat, e = (E : Int) := ⟨e.toNat, by omega⟩
                have hE : E < 53 := by omega
                rw [show ((E : Int)).toNat = E from rfl] at HR2
                have hp1 : 1 ≤ 2 ^ E := Nat.pow_pos (by decide)
                obtain ⟨v, HV⟩ : ∃ v : Nat, Hid (m * 2 ^ E % 18446744073709551616 = v) := ⟨_, rfl⟩
                have hv : IntKind.u64.wrap ((m : Int) * 2 ^ E) = (v : Int) := by
                  rw [show ((m : Int) * 2 ^ E) = ((m * 2 ^ E : Nat) : Int) by simp, IntKind.wrap_u64, ← HV.out]
                  omega
                have vl : v < 18446744073709551616 := by rw [← HV.out]; omega
                obtain ⟨u, HU⟩ : ∃ u : Nat, Hid (v / 2 ^ E = u) := ⟨_, rfl⟩
                have hu : (v : Int) / 2 ^ E = (u : Int) := by rw [← HU.out]; simp
                by_cases hA : m * 2 ^ E < 9007199254740992
                · have ev : m * 2 ^ E = v := by rw [← HV.out, Nat.mod_eq_of_lt (by omega)]
                  have eu : u = m := by rw [← HU.out, ← ev]; exact Nat.mul_div_cancel _ (by omega)
                  subst eu
                  rw [ev] at HR2 hA
                  rw [if_pos ⟨by omega, by omega, hA⟩] at HR2
                  have g1 : decide (v < 9007199254740992) = true := decide_eq_true hA
                  have g2 : decide ((v : Int) < 9007199254740992) = true := decide_eq_true (by omega)
                  have HUv : Hid (∀ W, Calls Tryz.prog 44 #[.int .u64 v] W fun e w' => e = .returned (sv (utoaN v)) ∧ Fr (fun _ => False) W w') := fun W => utoa_any v (by omega)
                  have ul := utoa_len v
                  obtain ⟨x, HX⟩ : ∃ x, Hid (utoaN v = x) := ⟨_, rfl⟩
                  rw [HX.out] at HUv ul HR2
                  clear ev hA hp1
                  go_wp2_with fail
                  refine (HUv.out _).mono ?_
                  rintro e' w' ⟨rfl, hf⟩
                  have HF : Hid (Fr (fun _ => False) wr w') := hf
                  clear hf
                  go_wp2_with fail
                  go_ret
                  exact ⟨by rw [← HR2.out]; rfl, HF.out⟩
                · rw [if_neg (fun z => hA z.2.2)] at HR2
                  have hcase : (u = m ∧ ¬ v < 9007199254740992) ∨ u ≠ m := by
                    by_cases hl : m * 2 ^ E < 18446744073709551616
                    · have ev : m * 2 ^ E = v := by rw [← HV.out, Nat.mod_eq_of_lt hl]
                      refine .inl ⟨?_, by omega⟩
                      rw [← HU.out, ← ev]
                      exact Nat.mul_div_cancel _ (by omega)
                    · refine .inr fun z => ?_
                      have : u * 2 ^ E ≤ v := by rw [← HU.out]; exact Nat.div_mul_le_self _ _
                      rw [z] at this
                      omega
                  clear hA hp1
                  rcases hcase with ⟨eu, hge⟩ | hne
                  · subst eu
                    have g1 : decide (v < 9007199254740992) = false := decide_eq_false hge
                    have g2 : decide ((v : Int) < 9007199254740992) = false := decide_eq_false (by omega)
                    clear hge
                    have ul := utoa_len u
                    have il : (itoaN (E : Int)).length ≤ 21 := itoa_len_all (by omega) (by omega)
                    obtain ⟨x, HX⟩ : ∃ x, Hid (utoaN u = x) := ⟨_, rfl⟩
                    obtain ⟨y, HY⟩ : ∃ y, Hid (itoaN (E : Int) = y) := ⟨_, rfl⟩
                    rw [HX.out] at HUm ul HR2
                    rw [HY.out] at HIe il HR2
                    go_wp2_with fail
                    refine (HUm.out _).mono ?_
                    rintro e' w' ⟨rfl, hf⟩
                    have HF : Hid (Fr (fun _ => False) wr w') := hf
                    clear hf
                    go_wp2_with fail
                    refine (HIe.out _).mono ?_
                    rintro e' w2 ⟨rfl, hf⟩
                    have HF2 : Hid (Fr (fun _ => False) wr w2) := HF.out.trans hf (fun _ _ z => z)
                    clear hf
                    go_wp2_with fail
                    go_ret
                    refine ⟨?_, HF2.out⟩
                    rw [← HR2.out]
                    simp
                    apply ByteArray.ext
                    simp

                  · have g1 : ((u : Int) == m) = false := by rw [beq_eq_false_iff_ne]; omega
                    clear hne
                    have ul := utoa_len m
                    have il : (itoaN (E : Int)).length ≤ 21 := itoa_len_all (by omega) (by omega)
                    obtain ⟨x, HX⟩ : ∃ x, Hid (utoaN m = x) := ⟨_, rfl⟩
                    obtain ⟨y, HY⟩ : ∃ y, Hid (itoaN (E : Int) = y) := ⟨_, rfl⟩
                    rw [HX.out] at HUm ul HR2
                    rw [HY.out] at HIe il HR2
                    go_wp2_with fail
                    refine (HUm.out _).mono ?_
                    rintro e' w' ⟨rfl, hf⟩
                    have HF : Hid (Fr (fun _ => False) wr w') := hf
                    clear hf
                    go_wp2_with fail
                    refine (HIe.out _).mono ?_
                    rintro e' w2 ⟨rfl, hf⟩
                    have HF2 : Hid (Fr (fun _ => False) wr w2) := HF.out.trans hf (fun _ _ z => z)
                    clear hf
                    go_wp2_with fail
                    go_ret
                    refine ⟨?_, HF2.out⟩
                    rw [← HR2.out]
                    simp
                    apply ByteArray.ext
                    simp

              · rw [if_neg (fun z => hin ⟨z.1, z.2.1⟩)] at HR2
                have hin' : e < 0 ∨ 53 ≤ e := by omega
                clear hin
                rcases hin' with hin | hin
                · have ul := utoa_len m
                  have il : (itoaN e).length ≤ 21 := itoa_len_all (by omega) (by omega)
                  obtain ⟨x, HX⟩ : ∃ x, Hid (utoaN m = x) := ⟨_, rfl⟩
                  obtain ⟨y, HY⟩ : ∃ y, Hid (itoaN e = y) := ⟨_, rfl⟩
                  rw [HX.out] at HUm ul HR2
                  rw [HY.out] at HIe il HR2
                  go_wp2_with fail
                  refine (HUm.out _).mono ?_
                  rintro e' w' ⟨rfl, hf⟩
                  have HF : Hid (Fr (fun _ => False) wr w') := hf
                  clear hf
                  go_wp2_with fail
                  refine (HIe.out _).mono ?_
                  rintro e' w2 ⟨rfl, hf⟩
                  have HF2 : Hid (Fr (fun _ => False) wr w2) := HF.out.trans hf (fun _ _ z => z)
                  clear hf
                  go_wp2_with fail
                  go_ret
                  refine ⟨?_, HF2.out⟩
                  rw [← HR2.out]
                  simp
                  apply ByteArray.ext
                  simp

                · have hin2 : 0 ≤ e := by omega
                  have ul := utoa_len m
                  have il : (itoaN e).length ≤ 21 := itoa_len_all (by omega) (by omega)
                  obtain ⟨x, HX⟩ : ∃ x, Hid (utoaN m = x) := ⟨_, rfl⟩
                  obtain ⟨y, HY⟩ : ∃ y, Hid (itoaN e = y) := ⟨_, rfl⟩
                  rw [HX.out] at HUm ul HR2
                  rw [HY.out] at HIe il HR2
                  go_wp2_with fail
                  refine (HUm.out _).mono ?_
                  rintro e' w' ⟨rfl, hf⟩
                  have HF : Hid (Fr (fun _ => False) wr w') := hf
                  clear hf
                  go_wp2_with fail
                  refine (HIe.out _).mono ?_
                  rintro e' w2 ⟨rfl, hf⟩
                  have HF2 : Hid (Fr (fun _ => False) wr w2) := HF.out.trans hf (fun _ _ z => z)
                  clear hf
                  go_wp2_with fail
                  go_ret
                  refine ⟨?_, HF2.out⟩
                  rw [← HR2.out]
                  simp
                  apply ByteArray.ext
                  simp


      · rw [z1] at HZ1 HR
        rw [if_pos rfl] at HR
        cases hng : negM a
        · rw [hng] at sx HR
          go_enter Tryz.func259, Tryz.ntmps259
          go_wp2_with fail
          refine HN.out.mono ?_
          rintro e w' ⟨rfl, hw⟩
          rw [hw]
          go_wp2_with fail
          refine HI1.out.mono ?_
          rintro e w' ⟨rfl, hw⟩
          rw [hw]
          go_wp2_with fail
          refine HZ1.out.mono ?_
          rintro e w' ⟨rfl, hw⟩
          rw [hw]
          go_wp2_with fail
          go_ret
          exact ⟨by rw [← HR.out]; rfl, HFR.out⟩
        · rw [hng] at sx HR
          go_enter Tryz.func259, Tryz.ntmps259
          go_wp2_with fail
          refine HN.out.mono ?_
          rintro e w' ⟨rfl, hw⟩
          rw [hw]
          go_wp2_with fail
          refine HI1.out.mono ?_
          rintro e w' ⟨rfl, hw⟩
          rw [hw]
          go_wp2_with fail
          refine HZ1.out.mono ?_
          rintro e w' ⟨rfl, hw⟩
          rw [hw]
          go_wp2_with fail
          go_ret
          exact ⟨by rw [← HR.out]; rfl, HFR.out⟩
    · rw [i1] at HI1 HR
      rw [if_pos rfl] at HR
      cases hng : negM a
      · rw [hng] at sx HR
        go_enter Tryz.func259, Tryz.ntmps259
        go_wp2_with fail
        refine HN.out.mono ?_
        rintro e w' ⟨rfl, hw⟩
        rw [hw]
        go_wp2_with fail
        refine HI1.out.mono ?_
        rintro e w' ⟨rfl, hw⟩
        rw [hw]
        go_wp2_with fail
        go_ret
        exact ⟨by rw [← HR.out]; rfl, HFR.out⟩
      · rw [hng] at sx HR
        go_enter Tryz.func259, Tryz.ntmps259
        go_wp2_with fail
        refine HN.out.mono ?_
        rintro e w' ⟨rfl, hw⟩
        rw [hw]
        go_wp2_with fail
        refine HI1.out.mono ?_
        rintro e w' ⟨rfl, hw⟩
        rw [hw]
        go_wp2_with fail
        go_ret
        exact ⟨by rw [← HR.out]; rfl, HFR.out⟩
  · rw [hn] at HN HR
    rw [if_pos rfl] at HR
    go_enter Tryz.func259, Tryz.ntmps259
    go_wp2_with fail
    refine HN.out.mono ?_
    rintro e w' ⟨rfl, hw⟩
    rw [hw]
    go_wp2_with fail
    go_ret
    exact ⟨by rw [← HR.out]; rfl, HFR.out⟩
end
end Go.Proofs.Qxb6500574aGreatDoor
