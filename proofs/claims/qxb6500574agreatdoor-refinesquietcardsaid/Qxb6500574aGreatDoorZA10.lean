/-
  THE WALKS of numm: Parse.
-/
import Derived.Test.Qxb6500574aGreatDoorZA9
import Derived.Test.Qxb6500574aGreatDoorVParse
namespace Go.Proofs.Qxb6500574aGreatDoor
open Go Go.RowKit
set_option linter.unusedVariables false
set_option linter.unusedSimpArgs false
theorem run_drop0 (s : Bs) (w : World) : (Instr.sliceAt 9 (sv s) (some (.int .i64 0)) none none).run Tryz.prog w = .ok (sv s) w := by
  have hu : Tryz.prog.underlying 9 = some .string := by kernel_rfl
  have hz : (⟨s.toArray⟩ : ByteArray).size = s.length := by simp [ByteArray.size]
  rw [run_sliceAt_string _ _ _ _ _ _ hu, run_slice_string_l _ _ _ hu .i64 0 (by omega) (by rw [hz]; omega), hz, ByteArray.extract_mk, show (0 : Int).toNat = 0 from rfl, List.take_of_length_le (by simp)]
  rfl
/-- behind the power's digits -/
def finE (neg dn : Bool) (m : Nat) (X : Option (Nat × Nat)) : Option Nat := match X with
  | none => none
  | some (e, ne) => if ne = 0 then none else some (packM neg m (if dn then -(e : Int) else (e : Int)) false)
/-- behind the digits -/
def tailP (neg : Bool) (S : Option (Nat × Nat × Nat × Option Nat × Bs)) : Option Nat :=
  match S with
  | none => none
  | some (m, ten, nd, k, r) =>
    if nd = 0 ∨ k = some 0 ∨ 9007199254740992 < m then none
    else match r with
      | [] => some (signM neg + (match k with
        | none => packM false m 0 false
        | some _ => divM (packM false m 0 false) (packM false ten 0 false)))
      | c :: r =>
        if c ≠ 112 ∨ k.isSome then none
        else
          let dn : Bool := r.head? == some 45
          finE neg dn m (expM (if dn then r.drop 1 else r) 0 0)
theorem mag_tail (neg : Bool) (s : Bs) : magM neg s = tailP neg (scanM s 0 1 0 none) := rfl
def kI (k : Option Nat) : Int := match k with | none => -1 | some x => x
theorem pack_pos {man : Nat} {ex : Int} {st : Bool} (h : u64 man) : packM false man ex st < 9223372036854775808 := by
  by_cases h0 : man = 0
  · subst h0
    unfold packM
    rw [if_pos rfl]
    decide
  rw [pack_tail h0 h]
  unfold tailM
  have hl : man.log2 ≤ 63 := by have := (Nat.log2_lt h0 (k := 64)).2 (by have : (2 : Nat) ^ 64 = 18446744073709551616 := (by decide); unfold u64 at h; omega); omega
  have hu : u64 (man * 2 ^ (63 - man.log2)) := by
    have hhi : man < 2 ^ (man.log2 + 1) := Nat.lt_log2_self
    have := Nat.mul_lt_mul_of_pos_right hhi (Nat.pow_pos (n := 63 - man.log2) (show 0 < 2 by decide))
    rw [← Nat.pow_add, show man.log2 + 1 + (63 - man.log2) = 64 by omega] at this
    exact this
  generalize man * 2 ^ (63 - man.log2) = m at *
  generalize ex + (man.log2 : Int) = top at *
  have hinf : infM = 9218868437227405312 := rfl
  have hs : signM false = 0 := rfl
  rw [hs]
  split
  · omega
  · split
    · split
      · omega
      · have := rnd_53 hu (d := 11 + (-1022 - top).toNat) (by omega) st
        omega
    · split <;> omega
theorem div_pos {a b : Nat} (ha : a < 9223372036854775808) (hb : b < 9223372036854775808) : divM a b < 9223372036854775808 := by
  have na : negM a = false := decide_eq_false (by omega)
  have nb : negM b = false := decide_eq_false (by omega)
  have hn : nanB = 9221120237041090561 := rfl
  have hi : infM = 9218868437227405312 := rfl
  unfold divM
  rw [na, nb]
  dsimp only
  rw [show (false ^^ false) = false from rfl, show signM false = 0 from rfl]
  by_cases h1 : (isNanM a || isNanM b) = true
  · rw [if_pos h1, hn]; decide
  rw [if_neg h1]
  by_cases h2 : isInfM a = true
  · rw [if_pos h2]; split <;> omega
  rw [if_neg h2]
  by_cases h3 : isInfM b = true
  · rw [if_pos h3]; decide
  rw [if_neg h3]
  by_cases h4 : isZeroM b = true
  · rw [if_pos h4]; split <;> omega
  rw [if_neg h4]
  by_cases h5 : isZeroM a = true
  · rw [if_pos h5]; decide
  rw [if_neg h5]
  have h1 : (isNanM a || isNanM b) = false := by simpa using h1
  obtain ⟨n1, n2⟩ := (Bool.or_eq_false_iff).1 h1
  obtain ⟨pa1, pa2, pa3, pa4⟩ := fin_parts (show u64 a by unfold u64; omega) n1 (by simpa using h2) (by simpa using h5)
  obtain ⟨pc1, pc2, pc3, pc4⟩ := fin_parts (show u64 b by unfold u64; omega) n2 (by simpa using h3) (by simpa using h4)
  unfold divS
  dsimp only
  apply pack_pos
  obtain ⟨_, x1, x2⟩ := norm_52 pa1 pa2
  obtain ⟨_, y1, y2⟩ := norm_52 pc1 pc2
  generalize (partsM a).1 * 2 ^ (52 - (partsM a).1.log2) = x at *
  generalize (partsM b).1 * 2 ^ (52 - (partsM b).1.log2) = y at *
  have h6 : x * 2 ^ 62 < y * 2 ^ 63 := by
    have e1 : (2 : Nat) ^ 62 = 4611686018427387904 := by decide
    have e2 : (2 : Nat) ^ 63 = 9223372036854775808 := by decide
    rw [e1, e2]
    omega
  have h7 : x * 2 ^ 62 / y < 2 ^ 63 := by rw [Nat.div_lt_iff_lt_mul (by omega), Nat.mul_comm (2 ^ 63)]; exact h6
  have e2 : (2 : Nat) ^ 63 = 9223372036854775808 := by decide
  unfold u64
  omega
theorem dig_notZ {c : UInt8} (h : digC c = true) : c ≠ 46 := fun e => by subst e; exact absurd h (by decide)
theorem dig_in {c : UInt8} (h : digC c = true) : 48 ≤ c.toNat ∧ c.toNat ≤ 57 := of_decide_eq_true h
theorem u8_neZ {c : UInt8} {n : Nat} (hn : n < 256) (h : c ≠ UInt8.ofNat n) : ((c.toNat : Int) == (n : Int)) = false := by
  rw [beq_eq_false_iff_ne]
  intro e
  apply h
  have : c.toNat = n := by omega
  apply UInt8.toNat_inj.1
  rw [this, UInt8.toNat_ofNat']
  omega
theorem pow_lt10 {m nd : Nat} (h : m < 10 ^ nd) (hn : nd ≤ 15) : m ≤ 999999999999999 := by
  have : 10 ^ nd ≤ 10 ^ 15 := Nat.pow_le_pow_right (by decide) hn
  have e : (10 : Nat) ^ 15 = 1000000000000000 := by decide
  omega
section
variable {w : World} {s : Bs}
set_option maxRecDepth 100000
set_option maxHeartbeats 8000000
theorem parse_m {bn : Nat} (hs : s.length ≤ 4096) : Calls Tryz.prog 183 #[.pointer (some ⟨bn, 0, none⟩), sv s] w (ParsePost (parseM s) w) := by
  obtain ⟨Q, HQ⟩ : ∃ Q : Ending → World → Prop, Hid (ParsePost (parseM s) w = Q) := ⟨_, rfl⟩
  rw [HQ.out]
  obtain ⟨O, HO⟩ : ∃ O, Hid (parseM s = O) := ⟨_, rfl⟩
  have HOk : Hid (∀ x : Nat, O = some x → Q (.returned (.tuple #[.int .u64 x, .int .i64 0])) w) := fun x hx => by rw [← HQ.out, HO.out, hx]; exact ⟨rfl, Fr.refl _ _⟩
  have HNo : Hid (∀ k : Nat, k ≠ 0 → O = none → Q (.returned (.tuple #[.int .u64 0, .int .i64 k])) w) := fun k hk hx => by rw [← HQ.out, HO.out, hx]; exact ⟨⟨k, hk, rfl⟩, Fr.refl _ _⟩
  clear HQ
  unfold parseM at HO
  obtain ⟨N, HN⟩ : ∃ N, Hid (s.length = N) := ⟨_, rfl⟩
  have hsz : (⟨s.toArray⟩ : ByteArray).size = N := by rw [← HN.out]; simp [ByteArray.size]
  have hsz2 : s.toArray.size = N := hsz
  rw [HN.out] at hs HO
  have P0 : ∀ (W : World) (man : Nat) (ex : Int) (st : Bool), u64 man → -100000 ≤ ex → ex ≤ 100000 → Calls Tryz.prog 202 #[.int .u64 0, .int .u64 man, .int .i64 ex, .bool st] W fun e w' => e = .returned (.int .u64 (packM false man ex st)) ∧ w' = W := pkC false
  have HP0 : Hid _ := P0
  clear P0
  have P1 : ∀ (W : World) (man : Nat) (ex : Int) (st : Bool), u64 man → -100000 ≤ ex → ex ≤ 100000 → Calls Tryz.prog 202 #[.int .u64 9223372036854775808, .int .u64 man, .int .i64 ex, .bool st] W fun e w' => e = .returned (.int .u64 (packM true man ex st)) ∧ w' = W := pkC true
  have HP1 : Hid _ := P1
  clear P1
  by_cases h24 : 24 < N
  · rw [if_pos h24] at HO
    have h24i : (24 : Int) < (N : Int) := by omega
    go_enter Tryz.func183, Tryz.ntmps183
    go_wp2_with fail
    try go_ret2
    exact HNo.out 1 (by decide) HO.out.symm
  rw [if_neg h24] at HO
  dsimp only at HO
  have hN24 : N ≤ 24 := by omega
  have h24i : decide ((24 : Int) < (N : Int)) = false := by simp; omega
  clear h24 hs
  by_cases hN0 : N = 0
  · have hs0 : s = [] := List.length_eq_zero_iff.1 (by rw [HN.out]; exact hN0)
    subst hs0
    subst hN0
    have HO2 : Hid (O = none) := HO.out.symm
    have hsl0 := run_drop0 []
    clear HO
    go_enter Tryz.func183, Tryz.ntmps183
    go_wp2_with fail
    go_loopw [6, 8, 9, 10, 11] (fun g6 g8 g9 g10 g11 wr => g6 = .int .i64 0 ∧ g8 = .int .u64 0 ∧ g9 = .int .u64 1 ∧ g10 = .int .i64 0 ∧ g11 = .int .i64 (-1) ∧ wr = w) (fun _ _ _ _ _ _ => 0)
    case atStart => exact ⟨rfl, rfl, rfl, rfl, rfl, rfl⟩
    case round =>
      obtain ⟨rfl, rfl, rfl, rfl, rfl, rfl⟩ := hrel
      go_wp2_with fail
      try go_ret2
      exact HNo.out 2 (by decide) HO2.out
  by_cases hnan : s = [110, 97, 110]
  · subst hnan
    have HO2 : Hid (O = some nanB) := HO.out.symm
    have hsl0 := run_drop0 [110, 97, 110]
    have hix := run_index_str [110, 97, 110] 0 0 rfl (t := 110) rfl
    rw [show (((110 : UInt8).toNat : Nat) : Int) = 110 from rfl] at hix
    have hN3 : N = 3 := HN.out.symm
    subst hN3
    clear HO
    go_enter Tryz.func183, Tryz.ntmps183
    go_wp2_with fail
    try go_ret2
    exact HOk.out nanB HO2.out
  have hnb : (s == [110, 97, 110]) = false := by simpa using hnan
  rw [if_neg hnan] at HO
  obtain ⟨c0, hc0⟩ : ∃ c, s[0]? = some c := ⟨s[0]'(by rw [HN.out]; omega), by simp⟩
  have hh : s.head? = some c0 := by rw [List.head?_eq_getElem?]; exact hc0
  rw [hh] at HO
  have hix := run_index_str s 0 0 rfl hc0
  have hpos2 : (0 : Int) < (N : Int) := by omega
  have hsl0 := run_drop0 s
  have hsl1 := run_drop1 s (by rw [HN.out]; omega)
  by_cases h45 : c0 = 45
  · rw [show ((some c0 : Option UInt8) == some 45) = true by rw [h45]; rfl] at HO
    simp only [if_true] at HO
    have hc45 : c0.toNat = 45 := by rw [h45]; rfl
    rw [hc45, show (((45 : Nat)) : Int) = 45 from rfl] at hix
    by_cases hinf : s.drop 1 = [105, 110, 102]
    · have hsv : s = [45, 105, 110, 102] := by
        obtain ⟨h1, h2⟩ := List.getElem?_eq_some_iff.1 hc0
        have := List.drop_eq_getElem_cons h1
        rw [List.drop_zero, h2, hinf, h45] at this
        exact this
      rw [if_pos hinf] at HO
      have HO2 : Hid (O = some (signM true + infM)) := HO.out.symm
      clear HO hsl0 hsl1 hnb hnan hh hc0 hinf
      subst hsv
      have hN4 : N = 4 := HN.out.symm
      subst hN4
      have hsl1 : ∀ w, (Instr.sliceAt 9 (sv [45, 105, 110, 102]) (some (.int .i64 1)) none none).run Tryz.prog w = .ok (sv [105, 110, 102]) w := run_drop1 _ (by decide)
      have ho1 : bits .or .u64 9223372036854775808 9218868437227405312 = 18442240474082181120 := by decide
      go_enter Tryz.func183, Tryz.ntmps183
      go_wp2_with fail
      try go_ret2
      exact HOk.out (signM true + infM) HO2.out
    rw [if_neg hinf, mag_tail] at HO
    have hib : (s.drop 1 == [105, 110, 102]) = false := by simpa using hinf
    clear hh hc0 h45 hc45 hnan hinf hsl0
    obtain ⟨S, HS⟩ : ∃ S, Hid (scanM (s.drop 1) 0 1 0 none = S) := ⟨_, rfl⟩
    rw [HS.out] at HO
    obtain ⟨t, HT⟩ : ∃ t, Hid (s.drop 1 = t) := ⟨_, rfl⟩
    rw [HT.out] at hsl1 hib
    go_enter Tryz.func183, Tryz.ntmps183
    go_wp2_with fail
    go_loopw [6, 8, 9, 10, 11] (fun g6 g8 g9 g10 g11 wr => ∃ (j m ten nd : Nat) (kk : Option Nat), j ≤ N ∧ nd ≤ 16 ∧ g6 = .int .i64 j ∧ g8 = .int .u64 m ∧ g9 = .int .u64 ten ∧ g10 = .int .i64 nd ∧ g11 = .int .i64 (kI kk) ∧ Hid (m < 10 ^ nd ∧ ten ≤ 10 ^ nd ∧ (∀ x, kk = some x → x ≤ nd) ∧ scanM (s.drop j) m ten nd kk = S) ∧ wr = w) (fun g6 _ _ _ _ _ => N - (intOf g6).toNat)
    case atStart => exact ⟨1, 0, 1, 0, none, by omega, by omega, rfl, rfl, rfl, rfl, rfl, (by refine ⟨by decide, by decide, (fun x hx => by cases hx), by rw [← HS.out]⟩ : _ ∧ _), rfl⟩
    case round =>
      obtain ⟨K, m, ten, nd, kk, hK, hnd, rfl, rfl, rfl, rfl, rfl, HJ, rfl⟩ := hrel
      have hml : m ≤ 9999999999999999 := by
        have := HJ.out.1
        have h2 : 10 ^ nd ≤ 10 ^ 16 := Nat.pow_le_pow_right (by decide) hnd
        have e : (10 : Nat) ^ 16 = 10000000000000000 := by decide
        omega
      have htl : ten ≤ 10000000000000000 := by
        have := HJ.out.2.1
        have h2 : 10 ^ nd ≤ 10 ^ 16 := Nat.pow_le_pow_right (by decide) hnd
        have e : (10 : Nat) ^ 16 = 10000000000000000 := by decide
        omega
      have hkl : ∀ x, kk = some x → x ≤ 16 := fun x hx => Nat.le_trans (HJ.out.2.2.1 x hx) hnd
      clear HS
      by_cases hlt : K < N
      · obtain ⟨c, hc⟩ : ∃ c, s[K]? = some c := ⟨s[K]'(by rw [HN.out]; exact hlt), by simp⟩
        have hd : s.drop K = c :: s.drop (K + 1) := by
          obtain ⟨h1, h2⟩ := List.getElem?_eq_some_iff.1 hc
          rw [List.drop_eq_getElem_cons h1, h2]
        have hixK := run_index_str s K K rfl hc
        have hcl := c.toNat_lt
        have HD : Hid (∀ W, Calls Tryz.prog 244 #[.int .u8 c.toNat] W fun e w' => e = .returned (.bool (digC c)) ∧ w' = W) := fun W => digit_m c
        obtain ⟨h1, h2, h3, h4⟩ := HJ.out
        rw [hd] at h4
        rw [scanM] at h4
        have H1 : Hid (m < 10 ^ nd) := h1
        have H2 : Hid (ten ≤ 10 ^ nd) := h2
        have H3 : Hid (∀ x, kk = some x → x ≤ nd) := h3
        clear h1 h2 h3 hd hc HJ
        by_cases h46 : c = 46
        · have hcn : c.toNat = 46 := by rw [h46]; rfl
          rw [hcn] at hixK HD
          rw [show (((46 : Nat)) : Int) = 46 from rfl] at hixK HD
          have hdg : digC c = false := by rw [h46]; decide
          rw [hdg] at HD
          have bKN : ((K : Int) == N) = false := by rw [beq_eq_false_iff_ne]; omega
          rcases kk with _ | x
          · have hkI : kI none = -1 := rfl
            by_cases hn0 : nd = 0
            · rw [if_neg (fun z => by have := z.2.2; omega), if_pos hdg] at h4
              have HO2 : Hid (O = none) := by show _ = _; rw [← HO.out, ← h4]; unfold tailP; exact if_pos (.inl hn0)
              subst hn0
              clear HO h4 h46
              go_wp2_with fail
              refine (HD.out _).mono ?_
              rintro e' w' ⟨rfl, hw⟩
              rw [hw]
              go_wp2_with fail
              try go_ret2
              exact HNo.out 2 (by decide) (by exact HO2.out)
            · rw [if_pos ⟨h46, rfl, by omega⟩] at h4
              have HJ2 : Hid (m < 10 ^ nd ∧ ten ≤ 10 ^ nd ∧ (∀ x, some 0 = some x → x ≤ nd) ∧ scanM (s.drop (K + 1)) m ten nd (some 0) = S) := ⟨H1.out, H2.out, fun x hx => by cases hx; omega, h4⟩
              have hn1 : (0 : Int) < (nd : Int) := by omega
              clear h4 h46 hn0
              go_wp2_with fail
              refine ⟨⟨K + 1, m, ten, nd, some 0, by omega, by omega, rfl, rfl, rfl, rfl, rfl, HJ2, trivial⟩, by simp [intOf]; omega⟩
          · have hkI : kI (some x) = (x : Int) := rfl
            have hxl := hkl x rfl
            rw [if_neg (fun z => by cases z.2.1), if_pos hdg] at h4
            have HO2 : Hid (O = none) := by
              show _ = _
              rw [← HO.out, ← h4]
              unfold tailP
              dsimp only
              by_cases z : nd = 0 ∨ some x = some 0 ∨ 9007199254740992 < m
              · exact if_pos z
              · rw [if_neg z]
                exact if_pos (.inl (by rw [h46]; decide))
            have hx1 : (0 : Int) ≤ (x : Int) := by omega
            clear HO h4 h46
            by_cases hn0 : nd = 0
            · subst hn0
              go_wp2_with fail
              refine (HD.out _).mono ?_
              rintro e' w' ⟨rfl, hw⟩
              rw [hw]
              go_wp2_with fail
              try go_ret2
              exact HNo.out 2 (by decide) (by exact HO2.out)
            have b0 : ((nd : Int) == 0) = false := by rw [beq_eq_false_iff_ne]; omega
            by_cases hx0 : x = 0
            · subst hx0
              go_wp2_with fail
              refine (HD.out _).mono ?_
              rintro e' w' ⟨rfl, hw⟩
              rw [hw]
              go_wp2_with fail
              try go_ret2
              exact HNo.out 2 (by decide) (by exact HO2.out)
            have b1 : ((x : Int) == 0) = false := by rw [beq_eq_false_iff_ne]; omega
            by_cases hbig : 9007199254740992 < m
            · have g1 : decide (9007199254740992 < m) = true := decide_eq_true hbig
              have g2 : decide ((9007199254740992 : Int) < (m : Int)) = true := decide_eq_true (by omega)
              go_wp2_with fail
              refine (HD.out _).mono ?_
              rintro e' w' ⟨rfl, hw⟩
              rw [hw]
              go_wp2_with fail
              try go_ret2
              exact HNo.out 2 (by decide) (by exact HO2.out)
            have g1 : decide (9007199254740992 < m) = false := decide_eq_false hbig
            have g2 : decide ((9007199254740992 : Int) < (m : Int)) = false := decide_eq_false (by omega)
            clear hbig hn0 hx0
            go_wp2_with fail
            refine (HD.out _).mono ?_
            rintro e' w' ⟨rfl, hw⟩
            rw [hw]
            go_wp2_with fail
            try go_ret2
            exact HNo.out 2 (by decide) (by exact HO2.out)
        have b46 : ((c.toNat : Int) == 46) = false := u8_neZ (n := 46) (by decide) h46
        rw [if_neg (fun z => h46 z.1)] at h4
        cases hdg : digC c
        · rw [if_pos hdg] at h4
          have HO2 : Hid (O = tailP true (some (m, ten, nd, kk, c :: s.drop (K + 1)))) := by rw [h4]; exact HO.out.symm
          clear HO h4
          unfold tailP at HO2
          try dsimp only at HO2
          have bKN : ((K : Int) == N) = false := by rw [beq_eq_false_iff_ne]; omega
          rw [hdg] at HD
          by_cases hn0 : nd = 0
          · subst hn0
            generalize c.toNat = cn at *
            go_wp2_with fail
            refine (HD.out _).mono ?_
            rintro e' w' ⟨rfl, hw⟩
            rw [hw]
            go_wp2_with fail
            try go_ret2
            exact HNo.out 2 (by decide) (by rw [HO2.out]; exact if_pos (.inl (by simp)))
          have b0 : ((nd : Int) == 0) = false := by rw [beq_eq_false_iff_ne]; omega
          rcases kk with _ | x
          · have hkI : kI none = -1 := rfl
            by_cases hbig : 9007199254740992 < m
            · have g1 : decide (9007199254740992 < m) = true := decide_eq_true hbig
              have g2 : decide ((9007199254740992 : Int) < (m : Int)) = true := decide_eq_true (by omega)
              generalize c.toNat = cn at *
              go_wp2_with fail
              refine (HD.out _).mono ?_
              rintro e' w' ⟨rfl, hw⟩
              rw [hw]
              go_wp2_with fail
              try go_ret2
              exact HNo.out 2 (by decide) (by rw [HO2.out]; exact if_pos (.inr (.inr hbig)))
            have g1 : decide (9007199254740992 < m) = false := decide_eq_false hbig
            have g2 : decide ((9007199254740992 : Int) < (m : Int)) = false := decide_eq_false (by omega)
            rw [if_neg (fun z => z.elim hn0 (fun z => z.elim (fun z => by cases z) hbig))] at HO2
            have hm53 : m ≤ 9007199254740992 := by omega
            clear hbig hn0
            by_cases hp : c = 112
            · rw [if_neg (fun z => z.elim (fun z => z hp) (fun z => by cases z))] at HO2
              have hcp : c.toNat = 112 := by rw [hp]; rfl
              rw [hcp] at hixK HD b46
              rw [show (((112 : Nat)) : Int) = 112 from rfl] at hixK HD
              clear hp hcp b46
              go_wp2_with fail
              refine (HD.out _).mono ?_
              rintro e' w' ⟨rfl, hw⟩
              rw [hw]
              by_cases hK1 : K + 1 < N
              · obtain ⟨c1, hc1⟩ : ∃ c, s[K + 1]? = some c := ⟨s[K + 1]'(by rw [HN.out]; exact hK1), by simp⟩
                have hix1 := run_index_str s (K + 1) ((K : Int) + 1) rfl hc1
                have hhd : (s.drop (K + 1)).head? = some c1 := by rw [List.head?_drop]; exact hc1
                have hdr : (s.drop (K + 1)).drop 1 = s.drop (K + 1 + 1) := by rw [List.drop_drop]
                have HDR : Hid ((s.drop (K + 1)).drop 1 = s.drop (K + 1 + 1)) := hdr
                have hc1l := c1.toNat_lt
                rw [hhd] at HO2
                clear hhd hdr hc1
                by_cases h451 : c1 = 45
                · rw [show ((some c1 : Option UInt8) == some 45) = true by rw [h451]; rfl] at HO2
                  try dsimp only at HO2
                  rw [if_pos rfl] at HO2
                  have hc45' : c1.toNat = 45 := by rw [h451]; rfl
                  rw [hc45', show (((45 : Nat)) : Int) = 45 from rfl] at hix1
                  clear h451 hc45'
                  obtain ⟨X, HX⟩ : ∃ X, Hid (expM (s.drop (K + 1 + 1)) 0 0 = X) := ⟨_, rfl⟩
                  have HO3 : Hid (O = finE true true m X) := by
                    show _ = _
                    rw [HO2.out, ← HX.out]
                    rw [HDR.out]
                    try rfl
                  clear HO2
                  go_wp2_with fail
                  go_loopw [6, 16, 17] (fun g6 g16 g17 wr' => ∃ (j e ne : Nat), j ≤ N ∧ ne ≤ 4 ∧ g6 = .int .i64 j ∧ g16 = .int .i64 e ∧ g17 = .int .i64 ne ∧ Hid (e < 10 ^ ne ∧ expM (s.drop j) e ne = X) ∧ wr' = wr) (fun g6 _ _ _ => N - (intOf g6).toNat)
                  case atStart => exact ⟨K + 1 + 1, 0, 0, by omega, by omega, rfl, rfl, rfl, (by refine ⟨by decide, HX.out⟩ : _ ∧ _), rfl⟩
                  case round =>
                    obtain ⟨L, e, ne, hL, hne, rfl, rfl, rfl, HJ, rfl⟩ := hrel
                    clear HX
                    have hel : e ≤ 9999 := by
                      have := HJ.out.1
                      have h2 : 10 ^ ne ≤ 10 ^ 4 := Nat.pow_le_pow_right (by decide) hne
                      have e4 : (10 : Nat) ^ 4 = 10000 := by decide
                      omega
                    by_cases hlt2 : L < N
                    · obtain ⟨c, hc⟩ : ∃ c, s[L]? = some c := ⟨s[L]'(by rw [HN.out]; exact hlt2), by simp⟩
                      have hd : s.drop L = c :: s.drop (L + 1) := by
                        obtain ⟨h1, h2⟩ := List.getElem?_eq_some_iff.1 hc
                        rw [List.drop_eq_getElem_cons h1, h2]
                      have hixL := run_index_str s L L rfl hc
                      have hcl := c.toNat_lt
                      have HD : Hid (∀ W, Calls Tryz.prog 244 #[.int .u8 c.toNat] W fun e w' => e = .returned (.bool (digC c)) ∧ w' = W) := fun W => digit_m c
                      obtain ⟨h1, h4⟩ := HJ.out
                      rw [hd, expM] at h4
                      have H1 : Hid (e < 10 ^ ne) := h1
                      clear h1 hd hc HJ
                      cases hdg : digC c
                      · rw [if_pos hdg] at h4
                        have HX0 : Hid (X = none) := h4.symm
                        rw [hdg] at HD
                        clear h4 hdg
                        generalize c.toNat = cn at *
                        go_wp2_with fail
                        refine (HD.out _).mono ?_
                        rintro e' w' ⟨rfl, hw⟩
                        rw [hw]
                        go_wp2_with fail
                        try go_ret2
                        exact HNo.out 2 (by decide) (by rw [HO3.out, HX0.out]; rfl)
                      · rw [if_neg (by rw [hdg]; decide)] at h4
                        obtain ⟨d1, d2⟩ := dig_in hdg
                        rw [hdg] at HD
                        clear hdg
                        generalize c.toNat = cn at *
                        by_cases h4n : ne = 4
                        · subst h4n
                          rw [if_pos (by decide)] at h4
                          have HX0 : Hid (X = none) := h4.symm
                          clear h4
                          go_wp2_with fail
                          refine (HD.out _).mono ?_
                          rintro e' w' ⟨rfl, hw⟩
                          rw [hw]
                          go_wp2_with fail
                          try go_ret2
                          exact HNo.out 2 (by decide) (by rw [HO3.out, HX0.out]; rfl)
                        · rw [if_neg (by omega)] at h4
                          obtain ⟨dv, hdv⟩ : ∃ dv : Nat, (cn : Int) - 48 = (dv : Int) := ⟨cn - 48, by omega⟩
                          have hdv' : cn - 48 = dv := by omega
                          have dvl : dv ≤ 9 := by omega
                          rw [hdv'] at h4
                          have he9 : e ≤ 999 := by
                            have := H1.out
                            have h2 : 10 ^ ne ≤ 10 ^ 3 := Nat.pow_le_pow_right (by decide) (by omega)
                            have e4 : (10 : Nat) ^ 3 = 1000 := by decide
                            omega
                          obtain ⟨E, hE⟩ : ∃ E : Nat, (e : Int) * 10 + (dv : Int) = (E : Int) := ⟨e * 10 + dv, by omega⟩
                          have hE' : e * 10 + dv = E := by omega
                          rw [hE'] at h4
                          have HJ2 : Hid (E < 10 ^ (ne + 1) ∧ expM (s.drop (L + 1)) E (ne + 1) = X) := ⟨by rw [Nat.pow_succ]; have := H1.out; omega, h4⟩
                          have hne3 : ne ≤ 3 := by omega
                          clear h4 hdv' hE' h4n
                          go_wp2_with fail
                          refine (HD.out _).mono ?_
                          rintro e' w' ⟨rfl, hw⟩
                          rw [hw]
                          go_wp2_with fail
                          refine ⟨⟨L + 1, E, ne + 1, by omega, by omega, rfl, rfl, rfl, HJ2, trivial⟩, by simp [intOf]; omega⟩
                    · have hLN : L = N := by omega
                      subst hLN
                      have HX0 : Hid (X = some (e, ne)) := by
                        have := HJ.out.2
                        rw [List.drop_eq_nil_of_le (by rw [HN.out]; exact Nat.le_refl _), expM] at this
                        exact this.symm
                      rw [HX0.out] at HO3
                      have HO4 : Hid (O = if ne = 0 then none else some (packM true m (-(e : Int)) false)) := HO3.out
                      clear HJ HX0 HO3
                      by_cases hn0' : ne = 0
                      · subst hn0'
                        go_wp2_with fail
                        try go_ret2
                        exact HNo.out 2 (by decide) (by rw [HO4.out]; exact if_pos (by simp))
                      · have b0' : ((ne : Int) == 0) = false := by rw [beq_eq_false_iff_ne]; omega
                        rw [if_neg hn0'] at HO4
                        have HPC := HP1.out wr m (-(e : Int)) false (show m < 18446744073709551616 by omega) (by omega) (by omega)
                        clear hn0'
                        go_wp2_with fail
                        refine HPC.mono ?_
                        rintro e' w' ⟨rfl, hw⟩
                        rw [hw]
                        go_wp2_with fail
                        try go_ret2
                        exact HOk.out _ HO4.out
                · rw [show ((some c1 : Option UInt8) == some 45) = false by simpa using h451] at HO2
                  try dsimp only at HO2
                  rw [if_neg (by decide)] at HO2
                  have b451 : ((c1.toNat : Int) == 45) = false := u8_neZ (n := 45) (by decide) h451
                  generalize c1.toNat = cn1 at *
                  clear h451
                  obtain ⟨X, HX⟩ : ∃ X, Hid (expM (s.drop (K + 1)) 0 0 = X) := ⟨_, rfl⟩
                  have HO3 : Hid (O = finE true false m X) := by
                    show _ = _
                    rw [HO2.out, ← HX.out]
                    skip
                    try rfl
                  clear HO2
                  go_wp2_with fail
                  go_loopw [6, 16, 17] (fun g6 g16 g17 wr' => ∃ (j e ne : Nat), j ≤ N ∧ ne ≤ 4 ∧ g6 = .int .i64 j ∧ g16 = .int .i64 e ∧ g17 = .int .i64 ne ∧ Hid (e < 10 ^ ne ∧ expM (s.drop j) e ne = X) ∧ wr' = wr) (fun g6 _ _ _ => N - (intOf g6).toNat)
                  case atStart => exact ⟨K + 1, 0, 0, by omega, by omega, rfl, rfl, rfl, (by refine ⟨by decide, HX.out⟩ : _ ∧ _), rfl⟩
                  case round =>
                    obtain ⟨L, e, ne, hL, hne, rfl, rfl, rfl, HJ, rfl⟩ := hrel
                    clear HX
                    have hel : e ≤ 9999 := by
                      have := HJ.out.1
                      have h2 : 10 ^ ne ≤ 10 ^ 4 := Nat.pow_le_pow_right (by decide) hne
                      have e4 : (10 : Nat) ^ 4 = 10000 := by decide
                      omega
                    by_cases hlt2 : L < N
                    · obtain ⟨c, hc⟩ : ∃ c, s[L]? = some c := ⟨s[L]'(by rw [HN.out]; exact hlt2), by simp⟩
                      have hd : s.drop L = c :: s.drop (L + 1) := by
                        obtain ⟨h1, h2⟩ := List.getElem?_eq_some_iff.1 hc
                        rw [List.drop_eq_getElem_cons h1, h2]
                      have hixL := run_index_str s L L rfl hc
                      have hcl := c.toNat_lt
                      have HD : Hid (∀ W, Calls Tryz.prog 244 #[.int .u8 c.toNat] W fun e w' => e = .returned (.bool (digC c)) ∧ w' = W) := fun W => digit_m c
                      obtain ⟨h1, h4⟩ := HJ.out
                      rw [hd, expM] at h4
                      have H1 : Hid (e < 10 ^ ne) := h1
                      clear h1 hd hc HJ
                      cases hdg : digC c
                      · rw [if_pos hdg] at h4
                        have HX0 : Hid (X = none) := h4.symm
                        rw [hdg] at HD
                        clear h4 hdg
                        generalize c.toNat = cn at *
                        go_wp2_with fail
                        refine (HD.out _).mono ?_
                        rintro e' w' ⟨rfl, hw⟩
                        rw [hw]
                        go_wp2_with fail
                        try go_ret2
                        exact HNo.out 2 (by decide) (by rw [HO3.out, HX0.out]; rfl)
                      · rw [if_neg (by rw [hdg]; decide)] at h4
                        obtain ⟨d1, d2⟩ := dig_in hdg
                        rw [hdg] at HD
                        clear hdg
                        generalize c.toNat = cn at *
                        by_cases h4n : ne = 4
                        · subst h4n
                          rw [if_pos (by decide)] at h4
                          have HX0 : Hid (X = none) := h4.symm
                          clear h4
                          go_wp2_with fail
                          refine (HD.out _).mono ?_
                          rintro e' w' ⟨rfl, hw⟩
                          rw [hw]
                          go_wp2_with fail
                          try go_ret2
                          exact HNo.out 2 (by decide) (by rw [HO3.out, HX0.out]; rfl)
                        · rw [if_neg (by omega)] at h4
                          obtain ⟨dv, hdv⟩ : ∃ dv : Nat, (cn : Int) - 48 = (dv : Int) := ⟨cn - 48, by omega⟩
                          have hdv' : cn - 48 = dv := by omega
                          have dvl : dv ≤ 9 := by omega
                          rw [hdv'] at h4
                          have he9 : e ≤ 999 := by
                            have := H1.out
                            have h2 : 10 ^ ne ≤ 10 ^ 3 := Nat.pow_le_pow_right (by decide) (by omega)
                            have e4 : (10 : Nat) ^ 3 = 1000 := by decide
                            omega
                          obtain ⟨E, hE⟩ : ∃ E : Nat, (e : Int) * 10 + (dv : Int) = (E : Int) := ⟨e * 10 + dv, by omega⟩
                          have hE' : e * 10 + dv = E := by omega
                          rw [hE'] at h4
                          have HJ2 : Hid (E < 10 ^ (ne + 1) ∧ expM (s.drop (L + 1)) E (ne + 1) = X) := ⟨by rw [Nat.pow_succ]; have := H1.out; omega, h4⟩
                          have hne3 : ne ≤ 3 := by omega
                          clear h4 hdv' hE' h4n
                          go_wp2_with fail
                          refine (HD.out _).mono ?_
                          rintro e' w' ⟨rfl, hw⟩
                          rw [hw]
                          go_wp2_with fail
                          refine ⟨⟨L + 1, E, ne + 1, by omega, by omega, rfl, rfl, rfl, HJ2, trivial⟩, by simp [intOf]; omega⟩
                    · have hLN : L = N := by omega
                      subst hLN
                      have HX0 : Hid (X = some (e, ne)) := by
                        have := HJ.out.2
                        rw [List.drop_eq_nil_of_le (by rw [HN.out]; exact Nat.le_refl _), expM] at this
                        exact this.symm
                      rw [HX0.out] at HO3
                      have HO4 : Hid (O = if ne = 0 then none else some (packM true m ((e : Int)) false)) := HO3.out
                      clear HJ HX0 HO3
                      by_cases hn0' : ne = 0
                      · subst hn0'
                        go_wp2_with fail
                        try go_ret2
                        exact HNo.out 2 (by decide) (by rw [HO4.out]; exact if_pos (by simp))
                      · have b0' : ((ne : Int) == 0) = false := by rw [beq_eq_false_iff_ne]; omega
                        rw [if_neg hn0'] at HO4
                        have HPC := HP1.out wr m ((e : Int)) false (show m < 18446744073709551616 by omega) (by omega) (by omega)
                        clear hn0'
                        go_wp2_with fail
                        refine HPC.mono ?_
                        rintro e' w' ⟨rfl, hw⟩
                        rw [hw]
                        go_wp2_with fail
                        try go_ret2
                        exact HOk.out _ HO4.out
              · have hK1N : K + 1 = N := by omega
                have hnil : s.drop (K + 1) = [] := List.drop_eq_nil_of_le (by rw [HN.out]; omega)
                rw [hnil] at HO2
                have HO3 : Hid (O = none) := HO2.out
                clear HO2 hnil
                have hK1i : (K : Int) + 1 = (N : Int) := by omega
                go_wp2_with fail
                go_loopw [6, 16, 17] (fun g6 g16 g17 wr' => g6 = .int .i64 N ∧ g16 = .int .i64 0 ∧ g17 = .int .i64 0 ∧ wr' = wr) (fun _ _ _ _ => 0)
                case atStart => exact ⟨rfl, rfl, rfl, rfl⟩
                case round =>
                  obtain ⟨rfl, rfl, rfl, rfl⟩ := hrel
                  go_wp2_with fail
                  try go_ret2
                  exact HNo.out 2 (by decide) HO3.out
            · rw [if_pos (.inl hp)] at HO2
              have bp : ((c.toNat : Int) == 112) = false := u8_neZ (n := 112) (by decide) hp
              have bp' : ((c.toNat : Int) != 112) = true := by rw [bne, bp]; rfl
              generalize c.toNat = cn at *
              go_wp2_with fail
              refine (HD.out _).mono ?_
              rintro e' w' ⟨rfl, hw⟩
              rw [hw]
              go_wp2_with fail
              try go_ret2
              exact HNo.out 2 (by decide) (by exact HO2.out)
          · have hkI : kI (some x) = (x : Int) := rfl
            have hxl := hkl x rfl
            by_cases hx0 : x = 0
            · subst hx0
              generalize c.toNat = cn at *
              go_wp2_with fail
              refine (HD.out _).mono ?_
              rintro e' w' ⟨rfl, hw⟩
              rw [hw]
              go_wp2_with fail
              try go_ret2
              exact HNo.out 2 (by decide) (by rw [HO2.out]; exact if_pos (.inr (.inl (by simp))))
            have b1 : ((x : Int) == 0) = false := by rw [beq_eq_false_iff_ne]; omega
            by_cases hbig : 9007199254740992 < m
            · have g1 : decide (9007199254740992 < m) = true := decide_eq_true hbig
              have g2 : decide ((9007199254740992 : Int) < (m : Int)) = true := decide_eq_true (by omega)
              generalize c.toNat = cn at *
              go_wp2_with fail
              refine (HD.out _).mono ?_
              rintro e' w' ⟨rfl, hw⟩
              rw [hw]
              go_wp2_with fail
              try go_ret2
              exact HNo.out 2 (by decide) (by rw [HO2.out]; exact if_pos (.inr (.inr hbig)))
            have g1 : decide (9007199254740992 < m) = false := decide_eq_false hbig
            have g2 : decide ((9007199254740992 : Int) < (m : Int)) = false := decide_eq_false (by omega)
            rw [if_neg (fun z => z.elim hn0 (fun z => z.elim (fun z => by cases z; exact hx0 rfl) hbig)), if_pos (.inr rfl)] at HO2
            have hx1 : (0 : Int) ≤ (x : Int) := by omega
            clear hbig hn0
            generalize c.toNat = cn at *
            cases hcp : ((cn : Int) != 112)
            · go_wp2_with fail
              refine (HD.out _).mono ?_
              rintro e' w' ⟨rfl, hw⟩
              rw [hw]
              go_wp2_with fail
              try go_ret2
              exact HNo.out 2 (by decide) (by exact HO2.out)
            · go_wp2_with fail
              refine (HD.out _).mono ?_
              rintro e' w' ⟨rfl, hw⟩
              rw [hw]
              go_wp2_with fail
              try go_ret2
              exact HNo.out 2 (by decide) (by exact HO2.out)
        · rw [hdg] at HD
          rw [if_neg (by rw [hdg]; decide)] at h4
          obtain ⟨d1, d2⟩ := dig_in hdg
          clear hdg h46
          generalize c.toNat = cn at *
          by_cases h16 : nd = 16
          · subst h16
            rw [if_pos (by decide)] at h4
            have HO2 : Hid (O = none) := by show _ = _; rw [← HO.out, ← h4]; rfl
            clear HO h4
            go_wp2_with fail
            refine (HD.out _).mono ?_
            rintro e' w' ⟨rfl, hw⟩
            rw [hw]
            go_wp2_with fail
            try go_ret2
            exact HNo.out 2 (by decide) (by exact HO2.out)
          rw [if_neg (by omega)] at h4
          obtain ⟨dv, hdv⟩ : ∃ dv : Nat, (cn : Int) - 48 = (dv : Int) := ⟨cn - 48, by omega⟩
          have hdv' : cn - 48 = dv := by omega
          have dvl : dv ≤ 9 := by omega
          rw [hdv'] at h4
          have hm15 : m ≤ 999999999999999 := pow_lt10 H1.out (by omega)
          have ht15 : ten ≤ 1000000000000000 := by
            have := H2.out
            have h2 : 10 ^ nd ≤ 10 ^ 15 := Nat.pow_le_pow_right (by decide) (by omega)
            have e : (10 : Nat) ^ 15 = 1000000000000000 := by decide
            omega
          obtain ⟨M, hM⟩ : ∃ M : Nat, (m : Int) * 10 + (dv : Int) = (M : Int) := ⟨m * 10 + dv, by omega⟩
          have hM' : m * 10 + dv = M := by omega
          rw [hM'] at h4
          have HM1 : Hid (M < 10 ^ (nd + 1)) := by show _ < _; rw [Nat.pow_succ]; have := H1.out; omega
          clear hdv' hM'
          rcases kk with _ | x
          · have hkI : kI none = -1 := rfl
            have HJ2 : Hid (M < 10 ^ (nd + 1) ∧ ten ≤ 10 ^ (nd + 1) ∧ (∀ x, (none : Option Nat) = some x → x ≤ nd + 1) ∧ scanM (s.drop (K + 1)) M ten (nd + 1) none = S) := ⟨HM1.out, by rw [Nat.pow_succ]; have := H2.out; omega, (fun x hx => by cases hx), h4⟩
            have hn15 : nd ≤ 15 := by omega
            clear h4 h16
            go_wp2_with fail
            refine (HD.out _).mono ?_
            rintro e' w' ⟨rfl, hw⟩
            rw [hw]
            go_wp2_with fail
            refine ⟨⟨K + 1, M, ten, nd + 1, none, by omega, by omega, rfl, rfl, rfl, rfl, rfl, HJ2, trivial⟩, by simp [intOf]; omega⟩
          · have hkI : kI (some x) = (x : Int) := rfl
            have hxl := hkl x rfl
            obtain ⟨T, hT⟩ : ∃ T : Nat, (ten : Int) * 10 = (T : Int) := ⟨ten * 10, by omega⟩
            have hT' : ten * 10 = T := by omega
            have HJ2 : Hid (M < 10 ^ (nd + 1) ∧ T ≤ 10 ^ (nd + 1) ∧ (∀ y, some (x + 1) = some y → y ≤ nd + 1) ∧ scanM (s.drop (K + 1)) M T (nd + 1) (some (x + 1)) = S) := ⟨HM1.out, by rw [Nat.pow_succ, ← hT']; have := H2.out; omega, fun y hy => by cases hy; have := H3.out x rfl; omega, by rw [← hT']; exact h4⟩
            have hx1 : (0 : Int) ≤ (x : Int) := by omega
            have hn15 : nd ≤ 15 := by omega
            clear h4 h16 hT'
            go_wp2_with fail
            refine (HD.out _).mono ?_
            rintro e' w' ⟨rfl, hw⟩
            rw [hw]
            go_wp2_with fail
            refine ⟨⟨K + 1, M, T, nd + 1, some (x + 1), by omega, by omega, rfl, rfl, rfl, rfl, rfl, HJ2, trivial⟩, by simp [intOf]; omega⟩
      · have hKN : K = N := by omega
        subst hKN
        have hS : S = some (m, ten, nd, kk, []) := by
          have := HJ.out.2.2.2
          rw [List.drop_eq_nil_of_le (by rw [HN.out]; exact Nat.le_refl _), scanM] at this
          exact this.symm
        have HO2 : Hid (O = tailP true (some (m, ten, nd, kk, []))) := by rw [← hS]; exact HO.out.symm
        clear HO hS HJ
        unfold tailP at HO2
        try dsimp only at HO2
        rcases kk with _ | x
        · have hkI : kI none = -1 := rfl
          by_cases hn0 : nd = 0
          · subst hn0
            go_wp2_with fail
            try go_ret2
            exact HNo.out 2 (by decide) (by rw [HO2.out]; exact if_pos (.inl (by simp)))
          have b0 : ((nd : Int) == 0) = false := by rw [beq_eq_false_iff_ne]; omega
          by_cases hbig : 9007199254740992 < m
          · have g1 : decide (9007199254740992 < m) = true := decide_eq_true hbig
            have g2 : decide ((9007199254740992 : Int) < (m : Int)) = true := decide_eq_true (by omega)
            go_wp2_with fail
            try go_ret2
            exact HNo.out 2 (by decide) (by rw [HO2.out]; exact if_pos (.inr (.inr hbig)))
          have g1 : decide (9007199254740992 < m) = false := decide_eq_false hbig
          have g2 : decide ((9007199254740992 : Int) < (m : Int)) = false := decide_eq_false (by omega)
          rw [if_neg (fun z => z.elim hn0 (fun z => z.elim (fun z => by cases z) hbig))] at HO2
          clear hbig hn0
          have HPm := HP0.out wr m 0 false (show m < 18446744073709551616 by omega) (by decide) (by decide)
          have hX := pack_pos (man := m) (ex := 0) (st := false) (show m < 18446744073709551616 by omega)
          obtain ⟨X, HX⟩ : ∃ X, Hid (packM false m 0 false = X) := ⟨_, rfl⟩
          rw [HX.out] at HPm hX HO2
          obtain ⟨V, HV⟩ : ∃ V, Hid (9223372036854775808 + X = V) := ⟨_, rfl⟩
          have ob : bits .or .u64 9223372036854775808 (X : Int) = (V : Int) := by rw [← HV.out]; exact bt_or (s := 9223372036854775808) (.inr rfl) hX
          go_wp2_with fail
          refine HPm.mono ?_
          rintro e' w' ⟨rfl, hw⟩
          rw [hw]
          go_wp2_with fail
          try go_ret2
          exact HOk.out V (by rw [HO2.out, ← HV.out]; rfl)
        · have hkI : kI (some x) = (x : Int) := rfl
          have hxl := hkl x rfl
          by_cases hn0 : nd = 0
          · subst hn0
            go_wp2_with fail
            try go_ret2
            exact HNo.out 2 (by decide) (by rw [HO2.out]; exact if_pos (.inl (by simp)))
          have b0 : ((nd : Int) == 0) = false := by rw [beq_eq_false_iff_ne]; omega
          by_cases hx0 : x = 0
          · subst hx0
            go_wp2_with fail
            try go_ret2
            exact HNo.out 2 (by decide) (by rw [HO2.out]; exact if_pos (.inr (.inl (by simp))))
          have b1 : ((x : Int) == 0) = false := by rw [beq_eq_false_iff_ne]; omega
          by_cases hbig : 9007199254740992 < m
          · have g1 : decide (9007199254740992 < m) = true := decide_eq_true hbig
            have g2 : decide ((9007199254740992 : Int) < (m : Int)) = true := decide_eq_true (by omega)
            go_wp2_with fail
            try go_ret2
            exact HNo.out 2 (by decide) (by rw [HO2.out]; exact if_pos (.inr (.inr hbig)))
          have g1 : decide (9007199254740992 < m) = false := decide_eq_false hbig
          have g2 : decide ((9007199254740992 : Int) < (m : Int)) = false := decide_eq_false (by omega)
          rw [if_neg (fun z => z.elim hn0 (fun z => z.elim (fun z => by cases z; exact hx0 rfl) hbig))] at HO2
          have hxp : (0 : Int) < (x : Int) := by omega
          clear hbig hn0 hx0
          have hml2 : m < 18446744073709551616 := by omega
          have htl2 : ten < 18446744073709551616 := by omega
          have HPm := HP0.out wr m 0 false hml2 (by decide) (by decide)
          have HPt := HP0.out wr ten 0 false htl2 (by decide) (by decide)
          have HDV := div_m (w := wr) (pack_u (neg := false) (ex := 0) (st := false) hml2) (pack_u (neg := false) (ex := 0) (st := false) htl2)
          have hX := div_pos (pack_pos (man := m) (ex := 0) (st := false) hml2) (pack_pos (man := ten) (ex := 0) (st := false) htl2)
          try dsimp only at HO2
          obtain ⟨X, HX⟩ : ∃ X, Hid (divM (packM false m 0 false) (packM false ten 0 false) = X) := ⟨_, rfl⟩
          rw [HX.out] at HDV hX HO2
          generalize packM false m 0 false = Y1 at *
          generalize packM false ten 0 false = Y2 at *
          clear hml2 htl2
          obtain ⟨V, HV⟩ : ∃ V, Hid (9223372036854775808 + X = V) := ⟨_, rfl⟩
          have ob : bits .or .u64 9223372036854775808 (X : Int) = (V : Int) := by rw [← HV.out]; exact bt_or (s := 9223372036854775808) (.inr rfl) hX
          go_wp2_with fail
          refine HPm.mono ?_
          rintro e' w' ⟨rfl, hw⟩
          rw [hw]
          go_wp2_with fail
          refine HPt.mono ?_
          rintro e' w' ⟨rfl, hw⟩
          rw [hw]
          go_wp2_with fail
          refine HDV.mono ?_
          rintro e' w' ⟨rfl, hw⟩
          rw [hw]
          go_wp2_with fail
          try go_ret2
          exact HOk.out V (by rw [HO2.out, ← HV.out]; rfl)
  · have e45 : ((some c0 : Option UInt8) == some 45) = false := by simpa using h45
    rw [e45] at HO
    simp only [Bool.false_eq_true, if_false] at HO
    have b45 : ((c0.toNat : Int) == 45) = false := u8_neZ (n := 45) (by decide) h45
    by_cases hinf : s = [105, 110, 102]
    · rw [if_pos hinf] at HO
      have HO2 : Hid (O = some (signM false + infM)) := HO.out.symm
      clear HO hsl0 hsl1 hnb hnan
      subst hinf
      have hN4 : N = 3 := HN.out.symm
      subst hN4
      have hsl0 := run_drop0 [105, 110, 102]
      have ho1 : bits .or .u64 0 9218868437227405312 = 9218868437227405312 := by decide
      clear hh hc0
      go_enter Tryz.func183, Tryz.ntmps183
      go_wp2_with fail
      try go_ret2
      exact HOk.out (signM false + infM) HO2.out
    rw [if_neg hinf, mag_tail] at HO
    have hib : (s == [105, 110, 102]) = false := by simpa using hinf
    clear hh hc0 h45 e45 hnan hinf hsl1
    obtain ⟨S, HS⟩ : ∃ S, Hid (scanM (s) 0 1 0 none = S) := ⟨_, rfl⟩
    rw [HS.out] at HO
    go_enter Tryz.func183, Tryz.ntmps183
    go_wp2_with fail
    go_loopw [6, 8, 9, 10, 11] (fun g6 g8 g9 g10 g11 wr => ∃ (j m ten nd : Nat) (kk : Option Nat), j ≤ N ∧ nd ≤ 16 ∧ g6 = .int .i64 j ∧ g8 = .int .u64 m ∧ g9 = .int .u64 ten ∧ g10 = .int .i64 nd ∧ g11 = .int .i64 (kI kk) ∧ Hid (m < 10 ^ nd ∧ ten ≤ 10 ^ nd ∧ (∀ x, kk = some x → x ≤ nd) ∧ scanM (s.drop j) m ten nd kk = S) ∧ wr = w) (fun g6 _ _ _ _ _ => N - (intOf g6).toNat)
    case atStart => exact ⟨0, 0, 1, 0, none, by omega, by omega, rfl, rfl, rfl, rfl, rfl, (by refine ⟨by decide, by decide, (fun x hx => by cases hx), by rw [← HS.out]; rfl⟩ : _ ∧ _), rfl⟩
    case round =>
      obtain ⟨K, m, ten, nd, kk, hK, hnd, rfl, rfl, rfl, rfl, rfl, HJ, rfl⟩ := hrel
      have hml : m ≤ 9999999999999999 := by
        have := HJ.out.1
        have h2 : 10 ^ nd ≤ 10 ^ 16 := Nat.pow_le_pow_right (by decide) hnd
        have e : (10 : Nat) ^ 16 = 10000000000000000 := by decide
        omega
      have htl : ten ≤ 10000000000000000 := by
        have := HJ.out.2.1
        have h2 : 10 ^ nd ≤ 10 ^ 16 := Nat.pow_le_pow_right (by decide) hnd
        have e : (10 : Nat) ^ 16 = 10000000000000000 := by decide
        omega
      have hkl : ∀ x, kk = some x → x ≤ 16 := fun x hx => Nat.le_trans (HJ.out.2.2.1 x hx) hnd
      clear HS
      by_cases hlt : K < N
      · obtain ⟨c, hc⟩ : ∃ c, s[K]? = some c := ⟨s[K]'(by rw [HN.out]; exact hlt), by simp⟩
        have hd : s.drop K = c :: s.drop (K + 1) := by
          obtain ⟨h1, h2⟩ := List.getElem?_eq_some_iff.1 hc
          rw [List.drop_eq_getElem_cons h1, h2]
        have hixK := run_index_str s K K rfl hc
        have hcl := c.toNat_lt
        have HD : Hid (∀ W, Calls Tryz.prog 244 #[.int .u8 c.toNat] W fun e w' => e = .returned (.bool (digC c)) ∧ w' = W) := fun W => digit_m c
        obtain ⟨h1, h2, h3, h4⟩ := HJ.out
        rw [hd] at h4
        rw [scanM] at h4
        have H1 : Hid (m < 10 ^ nd) := h1
        have H2 : Hid (ten ≤ 10 ^ nd) := h2
        have H3 : Hid (∀ x, kk = some x → x ≤ nd) := h3
        clear h1 h2 h3 hd hc HJ
        by_cases h46 : c = 46
        · have hcn : c.toNat = 46 := by rw [h46]; rfl
          rw [hcn] at hixK HD
          rw [show (((46 : Nat)) : Int) = 46 from rfl] at hixK HD
          have hdg : digC c = false := by rw [h46]; decide
          rw [hdg] at HD
          have bKN : ((K : Int) == N) = false := by rw [beq_eq_false_iff_ne]; omega
          rcases kk with _ | x
          · have hkI : kI none = -1 := rfl
            by_cases hn0 : nd = 0
            · rw [if_neg (fun z => by have := z.2.2; omega), if_pos hdg] at h4
              have HO2 : Hid (O = none) := by show _ = _; rw [← HO.out, ← h4]; unfold tailP; exact if_pos (.inl hn0)
              subst hn0
              clear HO h4 h46
              go_wp2_with fail
              refine (HD.out _).mono ?_
              rintro e' w' ⟨rfl, hw⟩
              rw [hw]
              go_wp2_with fail
              try go_ret2
              exact HNo.out 2 (by decide) (by exact HO2.out)
            · rw [if_pos ⟨h46, rfl, by omega⟩] at h4
              have HJ2 : Hid (m < 10 ^ nd ∧ ten ≤ 10 ^ nd ∧ (∀ x, some 0 = some x → x ≤ nd) ∧ scanM (s.drop (K + 1)) m ten nd (some 0) = S) := ⟨H1.out, H2.out, fun x hx => by cases hx; omega, h4⟩
              have hn1 : (0 : Int) < (nd : Int) := by omega
              clear h4 h46 hn0
              go_wp2_with fail
              refine ⟨⟨K + 1, m, ten, nd, some 0, by omega, by omega, rfl, rfl, rfl, rfl, rfl, HJ2, trivial⟩, by simp [intOf]; omega⟩
          · have hkI : kI (some x) = (x : Int) := rfl
            have hxl := hkl x rfl
            rw [if_neg (fun z => by cases z.2.1), if_pos hdg] at h4
            have HO2 : Hid (O = none) := by
              show _ = _
              rw [← HO.out, ← h4]
              unfold tailP
              dsimp only
              by_cases z : nd = 0 ∨ some x = some 0 ∨ 9007199254740992 < m
              · exact if_pos z
              · rw [if_neg z]
                exact if_pos (.inl (by rw [h46]; decide))
            have hx1 : (0 : Int) ≤ (x : Int) := by omega
            clear HO h4 h46
            by_cases hn0 : nd = 0
            · subst hn0
              go_wp2_with fail
              refine (HD.out _).mono ?_
              rintro e' w' ⟨rfl, hw⟩
              rw [hw]
              go_wp2_with fail
              try go_ret2
              exact HNo.out 2 (by decide) (by exact HO2.out)
            have b0 : ((nd : Int) == 0) = false := by rw [beq_eq_false_iff_ne]; omega
            by_cases hx0 : x = 0
            · subst hx0
              go_wp2_with fail
              refine (HD.out _).mono ?_
              rintro e' w' ⟨rfl, hw⟩
              rw [hw]
              go_wp2_with fail
              try go_ret2
              exact HNo.out 2 (by decide) (by exact HO2.out)
            have b1 : ((x : Int) == 0) = false := by rw [beq_eq_false_iff_ne]; omega
            by_cases hbig : 9007199254740992 < m
            · have g1 : decide (9007199254740992 < m) = true := decide_eq_true hbig
              have g2 : decide ((9007199254740992 : Int) < (m : Int)) = true := decide_eq_true (by omega)
              go_wp2_with fail
              refine (HD.out _).mono ?_
              rintro e' w' ⟨rfl, hw⟩
              rw [hw]
              go_wp2_with fail
              try go_ret2
              exact HNo.out 2 (by decide) (by exact HO2.out)
            have g1 : decide (9007199254740992 < m) = false := decide_eq_false hbig
            have g2 : decide ((9007199254740992 : Int) < (m : Int)) = false := decide_eq_false (by omega)
            clear hbig hn0 hx0
            go_wp2_with fail
            refine (HD.out _).mono ?_
            rintro e' w' ⟨rfl, hw⟩
            rw [hw]
            go_wp2_with fail
            try go_ret2
            exact HNo.out 2 (by decide) (by exact HO2.out)
        have b46 : ((c.toNat : Int) == 46) = false := u8_neZ (n := 46) (by decide) h46
        rw [if_neg (fun z => h46 z.1)] at h4
        cases hdg : digC c
        · rw [if_pos hdg] at h4
          have HO2 : Hid (O = tailP false (some (m, ten, nd, kk, c :: s.drop (K + 1)))) := by rw [h4]; exact HO.out.symm
          clear HO h4
          unfold tailP at HO2
          try dsimp only at HO2
          have bKN : ((K : Int) == N) = false := by rw [beq_eq_false_iff_ne]; omega
          rw [hdg] at HD
          by_cases hn0 : nd = 0
          · subst hn0
            generalize c.toNat = cn at *
            go_wp2_with fail
            refine (HD.out _).mono ?_
            rintro e' w' ⟨rfl, hw⟩
            rw [hw]
            go_wp2_with fail
            try go_ret2
            exact HNo.out 2 (by decide) (by rw [HO2.out]; exact if_pos (.inl (by simp)))
          have b0 : ((nd : Int) == 0) = false := by rw [beq_eq_false_iff_ne]; omega
          rcases kk with _ | x
          · have hkI : kI none = -1 := rfl
            by_cases hbig : 9007199254740992 < m
            · have g1 : decide (9007199254740992 < m) = true := decide_eq_true hbig
              have g2 : decide ((9007199254740992 : Int) < (m : Int)) = true := decide_eq_true (by omega)
              generalize c.toNat = cn at *
              go_wp2_with fail
              refine (HD.out _).mono ?_
              rintro e' w' ⟨rfl, hw⟩
              rw [hw]
              go_wp2_with fail
              try go_ret2
              exact HNo.out 2 (by decide) (by rw [HO2.out]; exact if_pos (.inr (.inr hbig)))
            have g1 : decide (9007199254740992 < m) = false := decide_eq_false hbig
            have g2 : decide ((9007199254740992 : Int) < (m : Int)) = false := decide_eq_false (by omega)
            rw [if_neg (fun z => z.elim hn0 (fun z => z.elim (fun z => by cases z) hbig))] at HO2
            have hm53 : m ≤ 9007199254740992 := by omega
            clear hbig hn0
            by_cases hp : c = 112
            · rw [if_neg (fun z => z.elim (fun z => z hp) (fun z => by cases z))] at HO2
              have hcp : c.toNat = 112 := by rw [hp]; rfl
              rw [hcp] at hixK HD b46
              rw [show (((112 : Nat)) : Int) = 112 from rfl] at hixK HD
              clear hp hcp b46
              go_wp2_with fail
              refine (HD.out _).mono ?_
              rintro e' w' ⟨rfl, hw⟩
              rw [hw]
              by_cases hK1 : K + 1 < N
              · obtain ⟨c1, hc1⟩ : ∃ c, s[K + 1]? = some c := ⟨s[K + 1]'(by rw [HN.out]; exact hK1), by simp⟩
                have hix1 := run_index_str s (K + 1) ((K : Int) + 1) rfl hc1
                have hhd : (s.drop (K + 1)).head? = some c1 := by rw [List.head?_drop]; exact hc1
                have hdr : (s.drop (K + 1)).drop 1 = s.drop (K + 1 + 1) := by rw [List.drop_drop]
                have HDR : Hid ((s.drop (K + 1)).drop 1 = s.drop (K + 1 + 1)) := hdr
                have hc1l := c1.toNat_lt
                rw [hhd] at HO2
                clear hhd hdr hc1
                by_cases h451 : c1 = 45
                · rw [show ((some c1 : Option UInt8) == some 45) = true by rw [h451]; rfl] at HO2
                  try dsimp only at HO2
                  rw [if_pos rfl] at HO2
                  have hc45' : c1.toNat = 45 := by rw [h451]; rfl
                  rw [hc45', show (((45 : Nat)) : Int) = 45 from rfl] at hix1
                  clear h451 hc45'
                  obtain ⟨X, HX⟩ : ∃ X, Hid (expM (s.drop (K + 1 + 1)) 0 0 = X) := ⟨_, rfl⟩
                  have HO3 : Hid (O = finE false true m X) := by
                    show _ = _
                    rw [HO2.out, ← HX.out]
                    rw [HDR.out]
                    try rfl
                  clear HO2
                  go_wp2_with fail
                  go_loopw [6, 16, 17] (fun g6 g16 g17 wr' => ∃ (j e ne : Nat), j ≤ N ∧ ne ≤ 4 ∧ g6 = .int .i64 j ∧ g16 = .int .i64 e ∧ g17 = .int .i64 ne ∧ Hid (e < 10 ^ ne ∧ expM (s.drop j) e ne = X) ∧ wr' = wr) (fun g6 _ _ _ => N - (intOf g6).toNat)
                  case atStart => exact ⟨K + 1 + 1, 0, 0, by omega, by omega, rfl, rfl, rfl, (by refine ⟨by decide, HX.out⟩ : _ ∧ _), rfl⟩
                  case round =>
                    obtain ⟨L, e, ne, hL, hne, rfl, rfl, rfl, HJ, rfl⟩ := hrel
                    clear HX
                    have hel : e ≤ 9999 := by
                      have := HJ.out.1
                      have h2 : 10 ^ ne ≤ 10 ^ 4 := Nat.pow_le_pow_right (by decide) hne
                      have e4 : (10 : Nat) ^ 4 = 10000 := by decide
                      omega
                    by_cases hlt2 : L < N
                    · obtain ⟨c, hc⟩ : ∃ c, s[L]? = some c := ⟨s[L]'(by rw [HN.out]; exact hlt2), by simp⟩
                      have hd : s.drop L = c :: s.drop (L + 1) := by
                        obtain ⟨h1, h2⟩ := List.getElem?_eq_some_iff.1 hc
                        rw [List.drop_eq_getElem_cons h1, h2]
                      have hixL := run_index_str s L L rfl hc
                      have hcl := c.toNat_lt
                      have HD : Hid (∀ W, Calls Tryz.prog 244 #[.int .u8 c.toNat] W fun e w' => e = .returned (.bool (digC c)) ∧ w' = W) := fun W => digit_m c
                      obtain ⟨h1, h4⟩ := HJ.out
                      rw [hd, expM] at h4
                      have H1 : Hid (e < 10 ^ ne) := h1
                      clear h1 hd hc HJ
                      cases hdg : digC c
                      · rw [if_pos hdg] at h4
                        have HX0 : Hid (X = none) := h4.symm
                        rw [hdg] at HD
                        clear h4 hdg
                        generalize c.toNat = cn at *
                        go_wp2_with fail
                        refine (HD.out _).mono ?_
                        rintro e' w' ⟨rfl, hw⟩
                        rw [hw]
                        go_wp2_with fail
                        try go_ret2
                        exact HNo.out 2 (by decide) (by rw [HO3.out, HX0.out]; rfl)
                      · rw [if_neg (by rw [hdg]; decide)] at h4
                        obtain ⟨d1, d2⟩ := dig_in hdg
                        rw [hdg] at HD
                        clear hdg
                        generalize c.toNat = cn at *
                        by_cases h4n : ne = 4
                        · subst h4n
                          rw [if_pos (by decide)] at h4
                          have HX0 : Hid (X = none) := h4.symm
                          clear h4
                          go_wp2_with fail
                          refine (HD.out _).mono ?_
                          rintro e' w' ⟨rfl, hw⟩
                          rw [hw]
                          go_wp2_with fail
                          try go_ret2
                          exact HNo.out 2 (by decide) (by rw [HO3.out, HX0.out]; rfl)
                        · rw [if_neg (by omega)] at h4
                          obtain ⟨dv, hdv⟩ : ∃ dv : Nat, (cn : Int) - 48 = (dv : Int) := ⟨cn - 48, by omega⟩
                          have hdv' : cn - 48 = dv := by omega
                          have dvl : dv ≤ 9 := by omega
                          rw [hdv'] at h4
                          have he9 : e ≤ 999 := by
                            have := H1.out
                            have h2 : 10 ^ ne ≤ 10 ^ 3 := Nat.pow_le_pow_right (by decide) (by omega)
                            have e4 : (10 : Nat) ^ 3 = 1000 := by decide
                            omega
                          obtain ⟨E, hE⟩ : ∃ E : Nat, (e : Int) * 10 + (dv : Int) = (E : Int) := ⟨e * 10 + dv, by omega⟩
                          have hE' : e * 10 + dv = E := by omega
                          rw [hE'] at h4
                          have HJ2 : Hid (E < 10 ^ (ne + 1) ∧ expM (s.drop (L + 1)) E (ne + 1) = X) := ⟨by rw [Nat.pow_succ]; have := H1.out; omega, h4⟩
                          have hne3 : ne ≤ 3 := by omega
                          clear h4 hdv' hE' h4n
                          go_wp2_with fail
                          refine (HD.out _).mono ?_
                          rintro e' w' ⟨rfl, hw⟩
                          rw [hw]
                          go_wp2_with fail
                          refine ⟨⟨L + 1, E, ne + 1, by omega, by omega, rfl, rfl, rfl, HJ2, trivial⟩, by simp [intOf]; omega⟩
                    · have hLN : L = N := by omega
                      subst hLN
                      have HX0 : Hid (X = some (e, ne)) := by
                        have := HJ.out.2
                        rw [List.drop_eq_nil_of_le (by rw [HN.out]; exact Nat.le_refl _), expM] at this
                        exact this.symm
                      rw [HX0.out] at HO3
                      have HO4 : Hid (O = if ne = 0 then none else some (packM false m (-(e : Int)) false)) := HO3.out
                      clear HJ HX0 HO3
                      by_cases hn0' : ne = 0
                      · subst hn0'
                        go_wp2_with fail
                        try go_ret2
                        exact HNo.out 2 (by decide) (by rw [HO4.out]; exact if_pos (by simp))
                      · have b0' : ((ne : Int) == 0) = false := by rw [beq_eq_false_iff_ne]; omega
                        rw [if_neg hn0'] at HO4
                        have HPC := HP0.out wr m (-(e : Int)) false (show m < 18446744073709551616 by omega) (by omega) (by omega)
                        clear hn0'
                        go_wp2_with fail
                        refine HPC.mono ?_
                        rintro e' w' ⟨rfl, hw⟩
                        rw [hw]
                        go_wp2_with fail
                        try go_ret2
                        exact HOk.out _ HO4.out
                · rw [show ((some c1 : Option UInt8) == some 45) = false by simpa using h451] at HO2
                  try dsimp only at HO2
                  rw [if_neg (by decide)] at HO2
                  have b451 : ((c1.toNat : Int) == 45) = false := u8_neZ (n := 45) (by decide) h451
                  generalize c1.toNat = cn1 at *
                  clear h451
                  obtain ⟨X, HX⟩ : ∃ X, Hid (expM (s.drop (K + 1)) 0 0 = X) := ⟨_, rfl⟩
                  have HO3 : Hid (O = finE false false m X) := by
                    show _ = _
                    rw [HO2.out, ← HX.out]
                    skip
                    try rfl
                  clear HO2
                  go_wp2_with fail
                  go_loopw [6, 16, 17] (fun g6 g16 g17 wr' => ∃ (j e ne : Nat), j ≤ N ∧ ne ≤ 4 ∧ g6 = .int .i64 j ∧ g16 = .int .i64 e ∧ g17 = .int .i64 ne ∧ Hid (e < 10 ^ ne ∧ expM (s.drop j) e ne = X) ∧ wr' = wr) (fun g6 _ _ _ => N - (intOf g6).toNat)
                  case atStart => exact ⟨K + 1, 0, 0, by omega, by omega, rfl, rfl, rfl, (by refine ⟨by decide, HX.out⟩ : _ ∧ _), rfl⟩
                  case round =>
                    obtain ⟨L, e, ne, hL, hne, rfl, rfl, rfl, HJ, rfl⟩ := hrel
                    clear HX
                    have hel : e ≤ 9999 := by
                      have := HJ.out.1
                      have h2 : 10 ^ ne ≤ 10 ^ 4 := Nat.pow_le_pow_right (by decide) hne
                      have e4 : (10 : Nat) ^ 4 = 10000 := by decide
                      omega
                    by_cases hlt2 : L < N
                    · obtain ⟨c, hc⟩ : ∃ c, s[L]? = some c := ⟨s[L]'(by rw [HN.out]; exact hlt2), by simp⟩
                      have hd : s.drop L = c :: s.drop (L + 1) := by
                        obtain ⟨h1, h2⟩ := List.getElem?_eq_some_iff.1 hc
                        rw [List.drop_eq_getElem_cons h1, h2]
                      have hixL := run_index_str s L L rfl hc
                      have hcl := c.toNat_lt
                      have HD : Hid (∀ W, Calls Tryz.prog 244 #[.int .u8 c.toNat] W fun e w' => e = .returned (.bool (digC c)) ∧ w' = W) := fun W => digit_m c
                      obtain ⟨h1, h4⟩ := HJ.out
                      rw [hd, expM] at h4
                      have H1 : Hid (e < 10 ^ ne) := h1
                      clear h1 hd hc HJ
                      cases hdg : digC c
                      · rw [if_pos hdg] at h4
                        have HX0 : Hid (X = none) := h4.symm
                        rw [hdg] at HD
                        clear h4 hdg
                        generalize c.toNat = cn at *
                        go_wp2_with fail
                        refine (HD.out _).mono ?_
                        rintro e' w' ⟨rfl, hw⟩
                        rw [hw]
                        go_wp2_with fail
                        try go_ret2
                        exact HNo.out 2 (by decide) (by rw [HO3.out, HX0.out]; rfl)
                      · rw [if_neg (by rw [hdg]; decide)] at h4
                        obtain ⟨d1, d2⟩ := dig_in hdg
                        rw [hdg] at HD
                        clear hdg
                        generalize c.toNat = cn at *
                        by_cases h4n : ne = 4
                        · subst h4n
                          rw [if_pos (by decide)] at h4
                          have HX0 : Hid (X = none) := h4.symm
                          clear h4
                          go_wp2_with fail
                          refine (HD.out _).mono ?_
                          rintro e' w' ⟨rfl, hw⟩
                          rw [hw]
                          go_wp2_with fail
                          try go_ret2
                          exact HNo.out 2 (by decide) (by rw [HO3.out, HX0.out]; rfl)
                        · rw [if_neg (by omega)] at h4
                          obtain ⟨dv, hdv⟩ : ∃ dv : Nat, (cn : Int) - 48 = (dv : Int) := ⟨cn - 48, by omega⟩
                          have hdv' : cn - 48 = dv := by omega
                          have dvl : dv ≤ 9 := by omega
                          rw [hdv'] at h4
                          have he9 : e ≤ 999 := by
                            have := H1.out
                            have h2 : 10 ^ ne ≤ 10 ^ 3 := Nat.pow_le_pow_right (by decide) (by omega)
                            have e4 : (10 : Nat) ^ 3 = 1000 := by decide
                            omega
                          obtain ⟨E, hE⟩ : ∃ E : Nat, (e : Int) * 10 + (dv : Int) = (E : Int) := ⟨e * 10 + dv, by omega⟩
                          have hE' : e * 10 + dv = E := by omega
                          rw [hE'] at h4
                          have HJ2 : Hid (E < 10 ^ (ne + 1) ∧ expM (s.drop (L + 1)) E (ne + 1) = X) := ⟨by rw [Nat.pow_succ]; have := H1.out; omega, h4⟩
                          have hne3 : ne ≤ 3 := by omega
                          clear h4 hdv' hE' h4n
                          go_wp2_with fail
                          refine (HD.out _).mono ?_
                          rintro e' w' ⟨rfl, hw⟩
                          rw [hw]
                          go_wp2_with fail
                          refine ⟨⟨L + 1, E, ne + 1, by omega, by omega, rfl, rfl, rfl, HJ2, trivial⟩, by simp [intOf]; omega⟩
                    · have hLN : L = N := by omega
                      subst hLN
                      have HX0 : Hid (X = some (e, ne)) := by
                        have := HJ.out.2
                        rw [List.drop_eq_nil_of_le (by rw [HN.out]; exact Nat.le_refl _), expM] at this
                        exact this.symm
                      rw [HX0.out] at HO3
                      have HO4 : Hid (O = if ne = 0 then none else some (packM false m ((e : Int)) false)) := HO3.out
                      clear HJ HX0 HO3
                      by_cases hn0' : ne = 0
                      · subst hn0'
                        go_wp2_with fail
                        try go_ret2
                        exact HNo.out 2 (by decide) (by rw [HO4.out]; exact if_pos (by simp))
                      · have b0' : ((ne : Int) == 0) = false := by rw [beq_eq_false_iff_ne]; omega
                        rw [if_neg hn0'] at HO4
                        have HPC := HP0.out wr m ((e : Int)) false (show m < 18446744073709551616 by omega) (by omega) (by omega)
                        clear hn0'
                        go_wp2_with fail
                        refine HPC.mono ?_
                        rintro e' w' ⟨rfl, hw⟩
                        rw [hw]
                        go_wp2_with fail
                        try go_ret2
                        exact HOk.out _ HO4.out
              · have hK1N : K + 1 = N := by omega
                have hnil : s.drop (K + 1) = [] := List.drop_eq_nil_of_le (by rw [HN.out]; omega)
                rw [hnil] at HO2
                have HO3 : Hid (O = none) := HO2.out
                clear HO2 hnil
                have hK1i : (K : Int) + 1 = (N : Int) := by omega
                go_wp2_with fail
                go_loopw [6, 16, 17] (fun g6 g16 g17 wr' => g6 = .int .i64 N ∧ g16 = .int .i64 0 ∧ g17 = .int .i64 0 ∧ wr' = wr) (fun _ _ _ _ => 0)
                case atStart => exact ⟨rfl, rfl, rfl, rfl⟩
                case round =>
                  obtain ⟨rfl, rfl, rfl, rfl⟩ := hrel
                  go_wp2_with fail
                  try go_ret2
                  exact HNo.out 2 (by decide) HO3.out
            · rw [if_pos (.inl hp)] at HO2
              have bp : ((c.toNat : Int) == 112) = false := u8_neZ (n := 112) (by decide) hp
              have bp' : ((c.toNat : Int) != 112) = true := by rw [bne, bp]; rfl
              generalize c.toNat = cn at *
              go_wp2_with fail
              refine (HD.out _).mono ?_
              rintro e' w' ⟨rfl, hw⟩
              rw [hw]
              go_wp2_with fail
              try go_ret2
              exact HNo.out 2 (by decide) (by exact HO2.out)
          · have hkI : kI (some x) = (x : Int) := rfl
            have hxl := hkl x rfl
            by_cases hx0 : x = 0
            · subst hx0
              generalize c.toNat = cn at *
              go_wp2_with fail
              refine (HD.out _).mono ?_
              rintro e' w' ⟨rfl, hw⟩
              rw [hw]
              go_wp2_with fail
              try go_ret2
              exact HNo.out 2 (by decide) (by rw [HO2.out]; exact if_pos (.inr (.inl (by simp))))
            have b1 : ((x : Int) == 0) = false := by rw [beq_eq_false_iff_ne]; omega
            by_cases hbig : 9007199254740992 < m
            · have g1 : decide (9007199254740992 < m) = true := decide_eq_true hbig
              have g2 : decide ((9007199254740992 : Int) < (m : Int)) = true := decide_eq_true (by omega)
              generalize c.toNat = cn at *
              go_wp2_with fail
              refine (HD.out _).mono ?_
              rintro e' w' ⟨rfl, hw⟩
              rw [hw]
              go_wp2_with fail
              try go_ret2
              exact HNo.out 2 (by decide) (by rw [HO2.out]; exact if_pos (.inr (.inr hbig)))
            have g1 : decide (9007199254740992 < m) = false := decide_eq_false hbig
            have g2 : decide ((9007199254740992 : Int) < (m : Int)) = false := decide_eq_false (by omega)
            rw [if_neg (fun z => z.elim hn0 (fun z => z.elim (fun z => by cases z; exact hx0 rfl) hbig)), if_pos (.inr rfl)] at HO2
            have hx1 : (0 : Int) ≤ (x : Int) := by omega
            clear hbig hn0
            generalize c.toNat = cn at *
            cases hcp : ((cn : Int) != 112)
            · go_wp2_with fail
              refine (HD.out _).mono ?_
              rintro e' w' ⟨rfl, hw⟩
              rw [hw]
              go_wp2_with fail
              try go_ret2
              exact HNo.out 2 (by decide) (by exact HO2.out)
            · go_wp2_with fail
              refine (HD.out _).mono ?_
              rintro e' w' ⟨rfl, hw⟩
              rw [hw]
              go_wp2_with fail
              try go_ret2
              exact HNo.out 2 (by decide) (by exact HO2.out)
        · rw [hdg] at HD
          rw [if_neg (by rw [hdg]; decide)] at h4
          obtain ⟨d1, d2⟩ := dig_in hdg
          clear hdg h46
          generalize c.toNat = cn at *
          by_cases h16 : nd = 16
          · subst h16
            rw [if_pos (by decide)] at h4
            have HO2 : Hid (O = none) := by show _ = _; rw [← HO.out, ← h4]; rfl
            clear HO h4
            go_wp2_with fail
            refine (HD.out _).mono ?_
            rintro e' w' ⟨rfl, hw⟩
            rw [hw]
            go_wp2_with fail
            try go_ret2
            exact HNo.out 2 (by decide) (by exact HO2.out)
          rw [if_neg (by omega)] at h4
          obtain ⟨dv, hdv⟩ : ∃ dv : Nat, (cn : Int) - 48 = (dv : Int) := ⟨cn - 48, by omega⟩
          have hdv' : cn - 48 = dv := by omega
          have dvl : dv ≤ 9 := by omega
          rw [hdv'] at h4
          have hm15 : m ≤ 999999999999999 := pow_lt10 H1.out (by omega)
          have ht15 : ten ≤ 1000000000000000 := by
            have := H2.out
            have h2 : 10 ^ nd ≤ 10 ^ 15 := Nat.pow_le_pow_right (by decide) (by omega)
            have e : (10 : Nat) ^ 15 = 1000000000000000 := by decide
            omega
          obtain ⟨M, hM⟩ : ∃ M : Nat, (m : Int) * 10 + (dv : Int) = (M : Int) := ⟨m * 10 + dv, by omega⟩
          have hM' : m * 10 + dv = M := by omega
          rw [hM'] at h4
          have HM1 : Hid (M < 10 ^ (nd + 1)) := by show _ < _; rw [Nat.pow_succ]; have := H1.out; omega
          clear hdv' hM'
          rcases kk with _ | x
          · have hkI : kI none = -1 := rfl
            have HJ2 : Hid (M < 10 ^ (nd + 1) ∧ ten ≤ 10 ^ (nd + 1) ∧ (∀ x, (none : Option Nat) = some x → x ≤ nd + 1) ∧ scanM (s.drop (K + 1)) M ten (nd + 1) none = S) := ⟨HM1.out, by rw [Nat.pow_succ]; have := H2.out; omega, (fun x hx => by cases hx), h4⟩
            have hn15 : nd ≤ 15 := by omega
            clear h4 h16
            go_wp2_with fail
            refine (HD.out _).mono ?_
            rintro e' w' ⟨rfl, hw⟩
            rw [hw]
            go_wp2_with fail
            refine ⟨⟨K + 1, M, ten, nd + 1, none, by omega, by omega, rfl, rfl, rfl, rfl, rfl, HJ2, trivial⟩, by simp [intOf]; omega⟩
          · have hkI : kI (some x) = (x : Int) := rfl
            have hxl := hkl x rfl
            obtain ⟨T, hT⟩ : ∃ T : Nat, (ten : Int) * 10 = (T : Int) := ⟨ten * 10, by omega⟩
            have hT' : ten * 10 = T := by omega
            have HJ2 : Hid (M < 10 ^ (nd + 1) ∧ T ≤ 10 ^ (nd + 1) ∧ (∀ y, some (x + 1) = some y → y ≤ nd + 1) ∧ scanM (s.drop (K + 1)) M T (nd + 1) (some (x + 1)) = S) := ⟨HM1.out, by rw [Nat.pow_succ, ← hT']; have := H2.out; omega, fun y hy => by cases hy; have := H3.out x rfl; omega, by rw [← hT']; exact h4⟩
            have hx1 : (0 : Int) ≤ (x : Int) := by omega
            have hn15 : nd ≤ 15 := by omega
            clear h4 h16 hT'
            go_wp2_with fail
            refine (HD.out _).mono ?_
            rintro e' w' ⟨rfl, hw⟩
            rw [hw]
            go_wp2_with fail
            refine ⟨⟨K + 1, M, T, nd + 1, some (x + 1), by omega, by omega, rfl, rfl, rfl, rfl, rfl, HJ2, trivial⟩, by simp [intOf]; omega⟩
      · have hKN : K = N := by omega
        subst hKN
        have hS : S = some (m, ten, nd, kk, []) := by
          have := HJ.out.2.2.2
          rw [List.drop_eq_nil_of_le (by rw [HN.out]; exact Nat.le_refl _), scanM] at this
          exact this.symm
        have HO2 : Hid (O = tailP false (some (m, ten, nd, kk, []))) := by rw [← hS]; exact HO.out.symm
        clear HO hS HJ
        unfold tailP at HO2
        try dsimp only at HO2
        rcases kk with _ | x
        · have hkI : kI none = -1 := rfl
          by_cases hn0 : nd = 0
          · subst hn0
            go_wp2_with fail
            try go_ret2
            exact HNo.out 2 (by decide) (by rw [HO2.out]; exact if_pos (.inl (by simp)))
          have b0 : ((nd : Int) == 0) = false := by rw [beq_eq_false_iff_ne]; omega
          by_cases hbig : 9007199254740992 < m
          · have g1 : decide (9007199254740992 < m) = true := decide_eq_true hbig
            have g2 : decide ((9007199254740992 : Int) < (m : Int)) = true := decide_eq_true (by omega)
            go_wp2_with fail
            try go_ret2
            exact HNo.out 2 (by decide) (by rw [HO2.out]; exact if_pos (.inr (.inr hbig)))
          have g1 : decide (9007199254740992 < m) = false := decide_eq_false hbig
          have g2 : decide ((9007199254740992 : Int) < (m : Int)) = false := decide_eq_false (by omega)
          rw [if_neg (fun z => z.elim hn0 (fun z => z.elim (fun z => by cases z) hbig))] at HO2
          clear hbig hn0
          have HPm := HP0.out wr m 0 false (show m < 18446744073709551616 by omega) (by decide) (by decide)
          have hX := pack_pos (man := m) (ex := 0) (st := false) (show m < 18446744073709551616 by omega)
          obtain ⟨X, HX⟩ : ∃ X, Hid (packM false m 0 false = X) := ⟨_, rfl⟩
          rw [HX.out] at HPm hX HO2
          obtain ⟨V, HV⟩ : ∃ V, Hid (0 + X = V) := ⟨_, rfl⟩
          have ob : bits .or .u64 0 (X : Int) = (V : Int) := by rw [← HV.out]; exact bt_or (s := 0) (.inl rfl) hX
          go_wp2_with fail
          refine HPm.mono ?_
          rintro e' w' ⟨rfl, hw⟩
          rw [hw]
          go_wp2_with fail
          try go_ret2
          exact HOk.out V (by rw [HO2.out, ← HV.out]; rfl)
        · have hkI : kI (some x) = (x : Int) := rfl
          have hxl := hkl x rfl
          by_cases hn0 : nd = 0
          · subst hn0
            go_wp2_with fail
            try go_ret2
            exact HNo.out 2 (by decide) (by rw [HO2.out]; exact if_pos (.inl (by simp)))
          have b0 : ((nd : Int) == 0) = false := by rw [beq_eq_false_iff_ne]; omega
          by_cases hx0 : x = 0
          · subst hx0
            go_wp2_with fail
            try go_ret2
            exact HNo.out 2 (by decide) (by rw [HO2.out]; exact if_pos (.inr (.inl (by simp))))
          have b1 : ((x : Int) == 0) = false := by rw [beq_eq_false_iff_ne]; omega
          by_cases hbig : 9007199254740992 < m
          · have g1 : decide (9007199254740992 < m) = true := decide_eq_true hbig
            have g2 : decide ((9007199254740992 : Int) < (m : Int)) = true := decide_eq_true (by omega)
            go_wp2_with fail
            try go_ret2
            exact HNo.out 2 (by decide) (by rw [HO2.out]; exact if_pos (.inr (.inr hbig)))
          have g1 : decide (9007199254740992 < m) = false := decide_eq_false hbig
          have g2 : decide ((9007199254740992 : Int) < (m : Int)) = false := decide_eq_false (by omega)
          rw [if_neg (fun z => z.elim hn0 (fun z => z.elim (fun z => by cases z; exact hx0 rfl) hbig))] at HO2
          have hxp : (0 : Int) < (x : Int) := by omega
          clear hbig hn0 hx0
          have hml2 : m < 18446744073709551616 := by omega
          have htl2 : ten < 18446744073709551616 := by omega
          have HPm := HP0.out wr m 0 false hml2 (by decide) (by decide)
          have HPt := HP0.out wr ten 0 false htl2 (by decide) (by decide)
          have HDV := div_m (w := wr) (pack_u (neg := false) (ex := 0) (st := false) hml2) (pack_u (neg := false) (ex := 0) (st := false) htl2)
          have hX := div_pos (pack_pos (man := m) (ex := 0) (st := false) hml2) (pack_pos (man := ten) (ex := 0) (st := false) htl2)
          try dsimp only at HO2
          obtain ⟨X, HX⟩ : ∃ X, Hid (divM (packM false m 0 false) (packM false ten 0 false) = X) := ⟨_, rfl⟩
          rw [HX.out] at HDV hX HO2
          generalize packM false m 0 false = Y1 at *
          generalize packM false ten 0 false = Y2 at *
          clear hml2 htl2
          obtain ⟨V, HV⟩ : ∃ V, Hid (0 + X = V) := ⟨_, rfl⟩
          have ob : bits .or .u64 0 (X : Int) = (V : Int) := by rw [← HV.out]; exact bt_or (s := 0) (.inl rfl) hX
          go_wp2_with fail
          refine HPm.mono ?_
          rintro e' w' ⟨rfl, hw⟩
          rw [hw]
          go_wp2_with fail
          refine HPt.mono ?_
          rintro e' w' ⟨rfl, hw⟩
          rw [hw]
          go_wp2_with fail
          refine HDV.mono ?_
          rintro e' w' ⟨rfl, hw⟩
          rw [hw]
          go_wp2_with fail
          try go_ret2
          exact HOk.out V (by rw [HO2.out, ← HV.out]; rfl)
end
end Go.Proofs.Qxb6500574aGreatDoor
