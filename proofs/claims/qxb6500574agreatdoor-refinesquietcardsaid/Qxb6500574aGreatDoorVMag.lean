/-
  THE WALK of num: magnitude.
-/
import Derived.Test.Qxb6500574aGreatDoorVDig
import Derived.Test.Qxb6500574aGreatDoorVLdexp
namespace Go.Proofs.Qxb6500574aGreatDoor
open Go Go.RowKit
set_option linter.unusedVariables false
set_option linter.unusedSimpArgs false
theorem digs_len : ∀ (s : Bs) (m : Nat), (digs s m).2.1 + (digs s m).2.2.length = s.length
  | [], m => rfl
  | c :: s, m => by
    rw [digs_split]
    split
    · have := digs_len s ((m * 10 + (c.toNat - 48)) % 2 ^ 64)
      simp only [List.length_cons]
      omega
    · simp
theorem digs_drop : ∀ (s : Bs) (m : Nat), s.drop (digs s m).2.1 = (digs s m).2.2
  | [], m => rfl
  | c :: s, m => by
    rw [digs_split]
    split
    · simp only [List.drop_succ_cons]
      exact digs_drop s _
    · rfl
theorem digs_lt : ∀ (s : Bs) (m : Nat), m < 18446744073709551616 → (digs s m).1 < 18446744073709551616
  | [], m, h => h
  | c :: s, m, h => by
    rw [digs_split]
    split
    · exact digs_lt s _ (Nat.mod_lt _ (by decide))
    · exact h
/-- what magnitude answers -/
def MagPost (o : Option Nat) (w : World) (e : Ending) (w' : World) : Prop :=
  (match o with | some x => e = .returned (.tuple #[.float .f64 x, .bool true]) | none => ∃ y, e = .returned (.tuple #[.float .f64 y, .bool false])) ∧ Fr (fun _ => False) w w'
theorem ten_ok : ∀ k : Fin 17, (match FloatKind.f64.format.read (fromIntN ((10 ^ k.val : Nat) : Int)) with | .number _ n _ => decide (n ≠ 0) | _ => false) = true := by decide +kernel
theorem ten_num {k : Nat} (hk : k ≤ 16) : ∃ s n j, FloatKind.f64.format.read (fromIntN ((10 ^ k : Nat) : Int)) = .number s n j ∧ n ≠ 0 := by
  have h := ten_ok ⟨k, by omega⟩
  dsimp only at h
  split at h
  · rename_i s n j he
    exact ⟨s, n, j, he, by simpa using h⟩
  · cases h
section
variable {w : World} {s : Bs}
set_option maxRecDepth 100000
set_option maxHeartbeats 600000
theorem mag_inf : Calls Tryz.prog 153 #[sv [105, 110, 102]] w (MagPost (some 9218868437227405312) w) := by
  go_enter Tryz.func153, Tryz.ntmps153
  go_wp2_with fail
  rw [show (Value.int .u64 9218868437227405312) = Value.int .u64 ((9218868437227405312 : Nat) : Int) from rfl, run_frombits]
  go_wp2_with fail
  go_ret2
  exact ⟨rfl, Fr.refl _ _⟩
theorem mag_bad (hi : s ≠ [105, 110, 102]) (hs : s.length ≤ 24) (hb : (digs s 0).2.1 = 0 ∨ (digs s 0).2.1 > 16) : Calls Tryz.prog 153 #[sv s] w (MagPost none w) := by
  have hni : (s == [105, 110, 102]) = false := by simpa using hi
  obtain ⟨N, HN⟩ : ∃ N, Hid (s.length = N) := ⟨_, rfl⟩
  have hsz : (⟨s.toArray⟩ : ByteArray).size = N := by rw [← HN.out]; simp [ByteArray.size]
  have hsz2 : s.toArray.size = N := hsz
  have CALL := digs_any (w := w) s 0 0 (by omega) (by omega) (by decide)
  rw [List.drop_zero, show ((0 : Nat) : Int) = 0 from rfl] at CALL
  have hdl := digs_len s 0
  have hdd := digs_drop s 0
  have hdt := digs_lt s 0 (by decide)
  generalize digs s 0 = r at *
  obtain ⟨m, nd, rest⟩ := r
  try dsimp only at *
  rw [HN.out] at hdl hs CALL
  have hnd : nd ≤ 24 := by omega
  by_cases h0 : nd = 0
  · subst h0
    go_enter Tryz.func153, Tryz.ntmps153
    go_wp2_with fail
    refine CALL.mono ?_
    rintro e' w1 ⟨rfl, hw1⟩
    subst hw1
    clear CALL
    go_wp2_with fail
    go_ret2
    exact ⟨⟨_, rfl⟩, Fr.refl _ _⟩
  · have h16 : nd > 16 := by omega
    go_enter Tryz.func153, Tryz.ntmps153
    go_wp2_with fail
    refine CALL.mono ?_
    rintro e' w1 ⟨rfl, hw1⟩
    subst hw1
    clear CALL hb
    go_wp2_with fail
    go_ret2
    exact ⟨⟨_, rfl⟩, Fr.refl _ _⟩
theorem mag_whole (hi : s ≠ [105, 110, 102]) (hs : s.length ≤ 24) {m nd : Nat} (hd : digs s 0 = (m, nd, [])) (h1 : nd ≠ 0) (h2 : nd ≤ 16) : Calls Tryz.prog 153 #[sv s] w (MagPost (if m ≤ 9007199254740992 then some (fromIntN m) else none) w) := by
  obtain ⟨Q, HQ⟩ : ∃ Q : Ending → World → Prop, Hid (MagPost (if m ≤ 9007199254740992 then some (fromIntN m) else none) w = Q) := ⟨_, rfl⟩
  rw [HQ.out]
  have hni : (s == [105, 110, 102]) = false := by simpa using hi
  obtain ⟨N, HN⟩ : ∃ N, Hid (s.length = N) := ⟨_, rfl⟩
  have hsz : (⟨s.toArray⟩ : ByteArray).size = N := by rw [← HN.out]; simp [ByteArray.size]
  have hsz2 : s.toArray.size = N := hsz
  have CALL := digs_any (w := w) s 0 0 (by omega) (by omega) (by decide)
  rw [List.drop_zero, show ((0 : Nat) : Int) = 0 from rfl] at CALL
  have hdl := digs_len s 0
  have hdd := digs_drop s 0
  have hdt := digs_lt s 0 (by decide)
  rw [hd] at *
  try dsimp only at *
  rw [HN.out] at hdl hs CALL
  have hnd : nd = N := by simpa using hdl
  subst hnd
  rw [show ((nd - ([] : Bs).length : Nat) : Int) = (nd : Int) by simp] at CALL
  clear hd hdl hdd
  have bn0 : ((nd : Int) == 0) = false := by simp; omega
  have bn16 : decide ((16 : Int) < (nd : Int)) = false := by simp; omega
  by_cases h53 : m ≤ 9007199254740992
  · rw [if_pos (show m ≤ 9007199254740992 from h53)] at HQ
    have h53i : (m : Int) ≤ 9007199254740992 := by omega
    go_enter Tryz.func153, Tryz.ntmps153
    go_wp2_with fail
    refine CALL.mono ?_
    rintro e' w1 ⟨rfl, hw1⟩
    subst hw1
    clear CALL
    go_wp2_with fail
    try go_ret2
    rw [← HQ.out]
    exact ⟨rfl, Fr.refl _ _⟩
  · rw [if_neg (show ¬ m ≤ 9007199254740992 from h53)] at HQ
    have h53i : decide ((m : Int) ≤ 9007199254740992) = false := by simp; omega
    go_enter Tryz.func153, Tryz.ntmps153
    go_wp2_with fail
    refine CALL.mono ?_
    rintro e' w1 ⟨rfl, hw1⟩
    subst hw1
    clear CALL
    go_wp2_with fail
    try go_ret2
    rw [← HQ.out]
    exact ⟨⟨_, rfl⟩, Fr.refl _ _⟩
theorem mag_other (hi : s ≠ [105, 110, 102]) (hs : s.length ≤ 24) {m nd : Nat} {c : UInt8} {s2 : Bs} (hd : digs s 0 = (m, nd, c :: s2)) (h1 : nd ≠ 0) (h2 : nd ≤ 16) (h46 : c ≠ 46) (h112 : c ≠ 112) : Calls Tryz.prog 153 #[sv s] w (MagPost none w) := by
  have hni : (s == [105, 110, 102]) = false := by simpa using hi
  obtain ⟨N, HN⟩ : ∃ N, Hid (s.length = N) := ⟨_, rfl⟩
  have hsz : (⟨s.toArray⟩ : ByteArray).size = N := by rw [← HN.out]; simp [ByteArray.size]
  have hsz2 : s.toArray.size = N := hsz
  have CALL := digs_any (w := w) s 0 0 (by omega) (by omega) (by decide)
  rw [List.drop_zero, show ((0 : Nat) : Int) = 0 from rfl] at CALL
  have hdl := digs_len s 0
  have hdd := digs_drop s 0
  have hdt := digs_lt s 0 (by decide)
  rw [hd] at CALL hdl hdd hdt
  dsimp only at CALL hdl hdd hdt
  rw [HN.out] at hdl hs CALL
  simp only [List.length_cons] at hdl
  have hix0 : s[nd]? = some c := by
    have := congrArg (fun z : Bs => z[0]?) hdd
    simpa using this
  have hdr : s.drop (nd + 1) = s2 := by
    rw [← List.drop_drop, hdd]
    rfl
  have HDR : Hid (s.drop (nd + 1) = s2) := hdr
  have hix := run_index_str s nd nd rfl hix0
  rw [show ((N - (c :: s2).length : Nat) : Int) = (nd : Int) by simp; omega] at CALL
  obtain ⟨S2, HS2⟩ : ∃ S2, Hid (s2.length = S2) := ⟨_, rfl⟩
  rw [HS2.out] at hdl
  have hlt : nd < N := by omega
  clear hd hdd hix0 hdr
  have bn0 : ((nd : Int) == 0) = false := by simp; omega
  have bn16 : decide ((16 : Int) < (nd : Int)) = false := by simp; omega
  have bnN : ((nd : Int) == (N : Int)) = false := by simp; omega
  have e46 : ¬ ((c.toNat : Int) = 46) := fun e => h46 (UInt8.toNat_inj.1 (by show c.toNat = 46; omega))
  have e112 : ¬ ((c.toNat : Int) = 112) := fun e => h112 (UInt8.toNat_inj.1 (by show c.toNat = 112; omega))
  obtain ⟨cn, HCN⟩ : ∃ cn, Hid (c.toNat = cn) := ⟨_, rfl⟩
  rw [HCN.out] at e46 e112 hix
  have hcl : cn < 256 := by rw [← HCN.out]; exact c.toNat_lt
  have b46 : ((cn : Int) == 46) = false := by simpa using e46
  have b112 : ((cn : Int) == 112) = false := by simpa using e112
  go_enter Tryz.func153, Tryz.ntmps153
  go_wp2_with fail
  refine CALL.mono ?_
  rintro e' w1 ⟨rfl, hw1⟩
  subst hw1
  clear CALL
  go_wp2_with fail
  go_ret2
  exact ⟨⟨_, rfl⟩, Fr.refl _ _⟩
theorem mag_dot (hi : s ≠ [105, 110, 102]) (hs : s.length ≤ 24) {m nd : Nat} {s2 : Bs} (hd : digs s 0 = (m, nd, 46 :: s2)) (h1 : nd ≠ 0) (h2 : nd ≤ 16) : Calls Tryz.prog 153 #[sv s] w (MagPost (if (digs s2 m).2.1 = 0 ∨ (digs s2 m).2.2 ≠ [] ∨ nd + (digs s2 m).2.1 > 16 ∨ (digs s2 m).1 > 9007199254740992 then none else some ((FloatKind.f64.format.div (fromIntN (digs s2 m).1) (fromIntN (10 ^ (digs s2 m).2.1 : Nat))).getD 0)) w) := by
  have hml := digs_lt s 0 (by decide)
  rw [hd] at hml
  dsimp only at hml
  have hni : (s == [105, 110, 102]) = false := by simpa using hi
  obtain ⟨N, HN⟩ : ∃ N, Hid (s.length = N) := ⟨_, rfl⟩
  have hsz : (⟨s.toArray⟩ : ByteArray).size = N := by rw [← HN.out]; simp [ByteArray.size]
  have hsz2 : s.toArray.size = N := hsz
  have CALL := digs_any (w := w) s 0 0 (by omega) (by omega) (by decide)
  rw [List.drop_zero, show ((0 : Nat) : Int) = 0 from rfl] at CALL
  have hdl := digs_len s 0
  have hdd := digs_drop s 0
  have hdt := digs_lt s 0 (by decide)
  obtain ⟨c, HC46⟩ : ∃ c : UInt8, Hid (c = 46) := ⟨_, rfl⟩
  have hd0 : digs s 0 = (m, nd, c :: s2) := by rw [hd, HC46.out]
  clear hd
  have hd := hd0
  clear hd0
  rw [hd] at CALL hdl hdd hdt
  dsimp only at CALL hdl hdd hdt
  rw [HN.out] at hdl hs CALL
  simp only [List.length_cons] at hdl
  have hix0 : s[nd]? = some c := by
    have := congrArg (fun z : Bs => z[0]?) hdd
    simpa using this
  have hdr : s.drop (nd + 1) = s2 := by
    rw [← List.drop_drop, hdd]
    rfl
  have HDR : Hid (s.drop (nd + 1) = s2) := hdr
  have hix := run_index_str s nd nd rfl hix0
  rw [show ((N - (c :: s2).length : Nat) : Int) = (nd : Int) by simp; omega] at CALL
  obtain ⟨S2, HS2⟩ : ∃ S2, Hid (s2.length = S2) := ⟨_, rfl⟩
  rw [HS2.out] at hdl
  have hlt : nd < N := by omega
  clear hd hdd hix0 hdr
  have bn0 : ((nd : Int) == 0) = false := by simp; omega
  have bn16 : decide ((16 : Int) < (nd : Int)) = false := by simp; omega
  have bnN : ((nd : Int) == (N : Int)) = false := by simp; omega
  have CAL2 : Hid (∀ W, Calls Tryz.prog 219 #[sv s, .int .i64 ((nd : Int) + 1), .int .u64 m] W fun e w' => e = .returned (.tuple #[.int .u64 (digs s2 m).1, .int .i64 (digs s2 m).2.1, .int .i64 ((N - (digs s2 m).2.2.length : Nat) : Int)]) ∧ w' = W) := fun W => by
    have := digs_any (w := W) s (nd + 1) m (by rw [HN.out]; omega) (by rw [HN.out]; omega) hml
    rw [HDR.out, HN.out] at this
    exact this
  have dl := digs_len s2 m
  have dt := digs_lt s2 m hml
  rw [HS2.out] at dl
  generalize digs s2 m = q at *
  obtain ⟨al, k, rs⟩ := q
  try dsimp only at *
  have hc46 : c.toNat = 46 := by rw [HC46.out]; rfl
  rw [hc46] at hix
  rw [show (((46 : Nat)) : Int) = 46 from rfl] at hix
  clear hc46
  obtain ⟨RL, HRL⟩ : ∃ RL, Hid (rs.length = RL) := ⟨_, rfl⟩
  rw [HRL.out] at dl CAL2
  have hk24 : k ≤ 24 := by omega
  clear hdt
  obtain ⟨Q, HQ⟩ : ∃ Q : Ending → World → Prop, Hid (MagPost (if k = 0 ∨ rs ≠ [] ∨ nd + k > 16 ∨ al > 9007199254740992 then none else some ((FloatKind.f64.format.div (fromIntN al) (fromIntN (10 ^ k : Nat))).getD 0)) w = Q) := ⟨_, rfl⟩
  rw [HQ.out]
  by_cases k0 : k = 0
  · rw [if_pos (.inl k0)] at HQ
    subst k0
    go_enter Tryz.func153, Tryz.ntmps153
    go_wp2_with fail
    refine CALL.mono ?_
    rintro e' w1 ⟨rfl, hw1⟩
    subst hw1
    clear CALL
    go_wp2_with fail
    refine (CAL2.out _).mono ?_
    rintro e' w2 ⟨rfl, hw2⟩
    subst hw2
    go_wp2_with fail
    try go_ret2
    rw [← HQ.out]
    exact ⟨⟨_, rfl⟩, Fr.refl _ _⟩
  · by_cases r0 : RL = 0
    · subst r0
      have hrs : rs = [] := List.length_eq_zero_iff.1 HRL.out
      rw [show ((N - 0 : Nat) : Int) = (N : Int) by simp] at CAL2
      by_cases n16 : nd + k > 16
      · rw [if_pos (.inr (.inr (.inl n16)))] at HQ
        have n16i : (16 : Int) < (nd : Int) + k := by omega
        go_enter Tryz.func153, Tryz.ntmps153
        go_wp2_with fail
        refine CALL.mono ?_
        rintro e' w1 ⟨rfl, hw1⟩
        subst hw1
        clear CALL
        go_wp2_with fail
        refine (CAL2.out _).mono ?_
        rintro e' w2 ⟨rfl, hw2⟩
        subst hw2
        go_wp2_with fail
        try go_ret2
        rw [← HQ.out]
        exact ⟨⟨_, rfl⟩, Fr.refl _ _⟩
      · have n16i : ¬ ((16 : Int) < (nd : Int) + k) := by omega
        by_cases a53 : al > 9007199254740992
        · rw [if_pos (.inr (.inr (.inr a53)))] at HQ
          have a53i : (9007199254740992 : Int) < (al : Int) := by omega
          go_enter Tryz.func153, Tryz.ntmps153
          go_wp2_with fail
          refine CALL.mono ?_
          rintro e' w1 ⟨rfl, hw1⟩
          subst hw1
          clear CALL
          go_wp2_with fail
          refine (CAL2.out _).mono ?_
          rintro e' w2 ⟨rfl, hw2⟩
          subst hw2
          go_wp2_with fail
          try go_ret2
          rw [← HQ.out]
          exact ⟨⟨_, rfl⟩, Fr.refl _ _⟩
        · rw [if_neg (by rw [hrs]; simp; exact ⟨k0, by omega, by omega⟩)] at HQ
          have a53i : decide ((9007199254740992 : Int) < (al : Int)) = false := by simp; omega
          have hk15 : k ≤ 15 := by omega
          have bk0 : ((k : Int) == 0) = false := by simp; omega
          have b16 : decide ((16 : Int) < (nd : Int) + k) = false := by simp; omega
          go_enter Tryz.func153, Tryz.ntmps153
          go_wp2_with fail
          refine CALL.mono ?_
          rintro e' w1 ⟨rfl, hw1⟩
          subst hw1
          clear CALL
          go_wp2_with fail
          refine (CAL2.out _).mono ?_
          rintro e' w2 ⟨rfl, hw2⟩
          subst hw2
          go_wp2_with fail
          go_loopw [8, 10] (fun a b wr => ∃ j : Nat, j ≤ k ∧ a = .int .i64 ((k - j : Nat) : Int) ∧ b = .int .u64 ((10 ^ j : Nat) : Int) ∧ wr = w2) (fun a _ _ => (intOf a).toNat)
          case atStart => exact ⟨0, by omega, rfl, rfl, rfl⟩
          case round =>
            obtain ⟨j, hj, rfl, rfl, rfl⟩ := hrel
            by_cases hjk : j < k
            · have hp : 10 ^ j ≤ 10 ^ 14 := Nat.pow_le_pow_right (by decide) (by omega)
              obtain ⟨P, HP⟩ : ∃ P, Hid (10 ^ j = P) := ⟨10 ^ j, Eq.refl (10 ^ j)⟩
              rw [HP.out] at hp ⊢
              have hp2 : P ≤ 100000000000000 := hp
              have hpos : (0 : Int) < ((k - j : Nat) : Int) := by omega
              obtain ⟨D, HD⟩ : ∃ D : Nat, Hid (k - j = D) := ⟨_, rfl⟩
              rw [HD.out] at hpos ⊢
              have hD : D ≤ 15 := by have := HD.out; omega
              go_wp2_with fail
              refine ⟨⟨j + 1, by omega, by have := HD.out; congr 1; omega, by rw [Nat.pow_succ, HP.out]; congr 1, trivial⟩, by simp [intOf]; omega⟩
            · obtain rfl : j = k := by omega
              rw [show ((j - j : Nat) : Int) = 0 by simp]
              obtain ⟨P, HP⟩ : ∃ P, Hid (10 ^ j = P) := ⟨10 ^ j, Eq.refl (10 ^ j)⟩
              rw [HP.out]
              obtain ⟨sb, nb, jb, hrd, hnb⟩ := ten_num (k := j) (by omega)
              rw [HP.out] at hrd HQ
              obtain ⟨q, hq⟩ := div_some (fromInt_fin (al : Int)).2 hrd hnb
              rw [hq] at HQ
              obtain ⟨r, w3, g1, g2, g3⟩ := run_fop (op := .quo) (x := fromIntN al) (y := fromIntN P) wr rfl
              have hrq := g3.some hq
              subst hrq
              have g1b : (binOp .quo 156 (.float .f64 (floatOfInt .f64 al)) (.float .f64 (floatOfInt .f64 P))).run Tryz.prog wr = .ok (.float .f64 r) w3 := g1
              go_wp2_with fail
              try go_ret2
              rw [← HQ.out]
              exact ⟨rfl, g2⟩
    · rw [if_pos (.inr (.inl (fun e => r0 (by rw [← HRL.out, e]; rfl))))] at HQ
      have hrl : ¬ (((N - RL : Nat) : Int) = (N : Int)) := by omega
      obtain ⟨J, HJ⟩ : ∃ J : Nat, Hid (N - RL = J) := ⟨_, rfl⟩
      rw [HJ.out] at CAL2 hrl
      go_enter Tryz.func153, Tryz.ntmps153
      go_wp2_with fail
      refine CALL.mono ?_
      rintro e' w1 ⟨rfl, hw1⟩
      subst hw1
      clear CALL
      go_wp2_with fail
      refine (CAL2.out _).mono ?_
      rintro e' w2 ⟨rfl, hw2⟩
      subst hw2
      go_wp2_with fail
      try go_ret2
      rw [← HQ.out]
      exact ⟨⟨_, rfl⟩, Fr.refl _ _⟩
theorem digs_val : ∀ (s : Bs) (m : Nat), (digs s m).2.1 ≤ 10 → (digs s m).1 < (m + 1) * 10 ^ (digs s m).2.1
  | [], m => fun _ => by simp [digs]
  | c :: s, m => by
    rw [digs_split]
    split
    · rename_i hc
      intro hk
      dsimp only at hk ⊢
      have h2 : (m * 10 + (c.toNat - 48)) % 2 ^ 64 + 1 ≤ (m + 1) * 10 := by have := Nat.mod_le (m * 10 + (c.toNat - 48)) (2 ^ 64); omega
      generalize (m * 10 + (c.toNat - 48)) % 2 ^ 64 = y at *
      have h1 := digs_val s y (by omega)
      have h3 := Nat.mul_le_mul_right (10 ^ (digs s y).2.1) h2
      rw [Nat.pow_succ]
      have h4 : (m + 1) * 10 * 10 ^ (digs s y).2.1 = (m + 1) * (10 ^ (digs s y).2.1 * 10) := by rw [Nat.mul_assoc, Nat.mul_comm 10]
      omega
    · intro _
      simp
theorem mag_p (hi : s ≠ [105, 110, 102]) (hs : s.length ≤ 24) {m nd : Nat} {s2 : Bs} (hd : digs s 0 = (m, nd, 112 :: s2)) (h1 : nd ≠ 0) (h2 : nd ≤ 16) : Calls Tryz.prog 153 #[sv s] w (MagPost (if (digs (if s2.head? == some 45 then s2.drop 1 else s2) 0).2.1 = 0 ∨ (digs (if s2.head? == some 45 then s2.drop 1 else s2) 0).2.1 > 4 ∨ (digs (if s2.head? == some 45 then s2.drop 1 else s2) 0).2.2 ≠ [] ∨ m > 9007199254740992 then none else some (ldexpN (fromIntN m) (if s2.head? == some 45 then -((digs (if s2.head? == some 45 then s2.drop 1 else s2) 0).1 : Int) else (digs (if s2.head? == some 45 then s2.drop 1 else s2) 0).1))) w) := by
  have hml := digs_lt s 0 (by decide)
  rw [hd] at hml
  dsimp only at hml
  have hni : (s == [105, 110, 102]) = false := by simpa using hi
  obtain ⟨N, HN⟩ : ∃ N, Hid (s.length = N) := ⟨_, rfl⟩
  have hsz : (⟨s.toArray⟩ : ByteArray).size = N := by rw [← HN.out]; simp [ByteArray.size]
  have hsz2 : s.toArray.size = N := hsz
  have CALL := digs_any (w := w) s 0 0 (by omega) (by omega) (by decide)
  rw [List.drop_zero, show ((0 : Nat) : Int) = 0 from rfl] at CALL
  have hdl := digs_len s 0
  have hdd := digs_drop s 0
  have hdt := digs_lt s 0 (by decide)
  obtain ⟨c, HC46⟩ : ∃ c : UInt8, Hid (c = 112) := ⟨_, rfl⟩
  have hd0 : digs s 0 = (m, nd, c :: s2) := by rw [hd, HC46.out]
  clear hd
  have hd := hd0
  clear hd0
  rw [hd] at CALL hdl hdd hdt
  dsimp only at CALL hdl hdd hdt
  rw [HN.out] at hdl hs CALL
  simp only [List.length_cons] at hdl
  have hix0 : s[nd]? = some c := by
    have := congrArg (fun z : Bs => z[0]?) hdd
    simpa using this
  have hdr : s.drop (nd + 1) = s2 := by
    rw [← List.drop_drop, hdd]
    rfl
  have HDR : Hid (s.drop (nd + 1) = s2) := hdr
  have hix := run_index_str s nd nd rfl hix0
  rw [show ((N - (c :: s2).length : Nat) : Int) = (nd : Int) by simp; omega] at CALL
  obtain ⟨S2, HS2⟩ : ∃ S2, Hid (s2.length = S2) := ⟨_, rfl⟩
  rw [HS2.out] at hdl
  have hlt : nd < N := by omega
  clear hd hdd hix0 hdr
  have bn0 : ((nd : Int) == 0) = false := by simp; omega
  have bn16 : decide ((16 : Int) < (nd : Int)) = false := by simp; omega
  have bnN : ((nd : Int) == (N : Int)) = false := by simp; omega
  have hc46 : c.toNat = 112 := by rw [HC46.out]; rfl
  rw [hc46] at hix
  rw [show (((112 : Nat)) : Int) = 112 from rfl] at hix
  clear hc46
  cases s2 with
  | nil =>
    obtain rfl : S2 = 0 := HS2.out.symm
    have hN1 : N ≤ nd + 1 := by omega
    have hend : decide ((nd : Int) + 1 < (N : Int)) = false := by simp; omega
    rw [if_pos (.inl rfl)]
    obtain ⟨Q, HQ⟩ : ∃ Q : Ending → World → Prop, Hid (MagPost none w = Q) := ⟨_, rfl⟩
    rw [HQ.out]
    have CAL2 : Hid (∀ W, Calls Tryz.prog 219 #[sv s, .int .i64 ((nd : Int) + 1), .int .u64 0] W fun e w' => e = .returned (.tuple #[.int .u64 0, .int .i64 0, .int .i64 N]) ∧ w' = W) := fun W => by
      have := digs_any (w := W) s (nd + 1) 0 (by rw [HN.out]; omega) (by rw [HN.out]; omega) (by decide)
      rw [HDR.out, HN.out] at this
      exact this
    go_enter Tryz.func153, Tryz.ntmps153
    go_wp2_with fail
    refine CALL.mono ?_
    rintro e' w1 ⟨rfl, hw1⟩
    subst hw1
    clear CALL
    go_wp2_with fail
    refine (CAL2.out _).mono ?_
    rintro e' w2 ⟨rfl, hw2⟩
    subst hw2
    go_wp2_with fail
    try go_ret2
    rw [← HQ.out]
    exact ⟨⟨_, rfl⟩, Fr.refl _ _⟩
  | cons c3 s3 =>
    have hS2 : S2 = s3.length + 1 := by rw [← HS2.out]; simp
    have hend : decide ((nd : Int) + 1 < (N : Int)) = true := by simp; omega
    have hend2 : (nd : Int) + 1 < (N : Int) := by omega
    have hix3 : s[nd + 1]? = some c3 := by
      have := congrArg (fun z : Bs => z[0]?) HDR.out
      simpa using this
    have hix4 := run_index_str s (nd + 1) ((nd : Int) + 1) (by omega) hix3
    have hdr3 : s.drop (nd + 2) = s3 := by
      rw [show nd + 2 = (nd + 1) + 1 from rfl, ← List.drop_drop, HDR.out]
      rfl
    have HDR3 : Hid (s.drop (nd + 2) = s3) := hdr3
    obtain ⟨S3, HS3⟩ : ∃ S3, Hid (s3.length = S3) := ⟨_, rfl⟩
    rw [HS3.out] at hS2
    clear hix3 hdr3
    by_cases h45 : c3 = 45
    · have e45 : (c3 :: s3).head? == some 45 := by rw [h45]; rfl
      simp only [e45, if_true, List.drop_succ_cons, List.drop_zero]
      have hc45 : c3.toNat = 45 := by rw [h45]; rfl
      rw [hc45] at hix4
      rw [show (((45 : Nat)) : Int) = 45 from rfl] at hix4
      clear h45 e45 hc45
      have CAL2 : Hid (∀ W, Calls Tryz.prog 219 #[sv s, .int .i64 ((nd : Int) + 1 + 1), .int .u64 0] W fun e w' => e = .returned (.tuple #[.int .u64 (digs s3 0).1, .int .i64 (digs s3 0).2.1, .int .i64 ((N - (digs s3 0).2.2.length : Nat) : Int)]) ∧ w' = W) := fun W => by
        have := digs_any (w := W) s (nd + 2) 0 (by rw [HN.out]; omega) (by rw [HN.out]; omega) (by decide)
        rw [HDR3.out, HN.out, show ((nd + 2 : Nat) : Int) = (nd : Int) + 1 + 1 by omega, show ((0 : Nat) : Int) = 0 from rfl] at this
        exact this
      have dl := digs_len s3 0
      have dt := digs_lt s3 0 (by decide)
      have dq := digs_val s3 0
      rw [HS3.out] at dl
      generalize digs s3 0 = q at *
      obtain ⟨ev, k, rs⟩ := q
      dsimp only at CAL2 dl dt dq ⊢
      obtain ⟨RL, HRL⟩ : ∃ RL, Hid (rs.length = RL) := ⟨_, rfl⟩
      rw [HRL.out] at dl CAL2
      have hk24 : k ≤ 24 := by omega
      clear hdt
      obtain ⟨Q, HQ⟩ : ∃ Q : Ending → World → Prop, Hid (MagPost (if k = 0 ∨ k > 4 ∨ rs ≠ [] ∨ m > 9007199254740992 then none else some (ldexpN (fromIntN m) (-(ev : Int)))) w = Q) := ⟨_, rfl⟩
      rw [HQ.out]
      by_cases k0 : k = 0
      · rw [if_pos (.inl k0)] at HQ
        subst k0
        go_enter Tryz.func153, Tryz.ntmps153
        go_wp2_with fail
        refine CALL.mono ?_
        rintro e' w1 ⟨rfl, hw1⟩
        subst hw1
        clear CALL
        go_wp2_with fail
        refine (CAL2.out _).mono ?_
        rintro e' w2 ⟨rfl, hw2⟩
        subst hw2
        go_wp2_with fail
        try go_ret2
        rw [← HQ.out]
        exact ⟨⟨_, rfl⟩, Fr.refl _ _⟩
      · have bk0 : ((k : Int) == 0) = false := by simp; omega
        by_cases k4 : k > 4
        · rw [if_pos (.inr (.inl k4))] at HQ
          have k4i : (4 : Int) < (k : Int) := by omega
          go_enter Tryz.func153, Tryz.ntmps153
          go_wp2_with fail
          refine CALL.mono ?_
          rintro e' w1 ⟨rfl, hw1⟩
          subst hw1
          clear CALL
          go_wp2_with fail
          refine (CAL2.out _).mono ?_
          rintro e' w2 ⟨rfl, hw2⟩
          subst hw2
          go_wp2_with fail
          try go_ret2
          rw [← HQ.out]
          exact ⟨⟨_, rfl⟩, Fr.refl _ _⟩
        · have k4i : decide ((4 : Int) < (k : Int)) = false := by simp; omega
          by_cases r0 : RL = 0
          · subst r0
            have hrs : rs = [] := List.length_eq_zero_iff.1 HRL.out
            rw [show ((N - 0 : Nat) : Int) = (N : Int) by simp] at CAL2
            by_cases a53 : m > 9007199254740992
            · rw [if_pos (.inr (.inr (.inr a53)))] at HQ
              have a53i : (9007199254740992 : Int) < (m : Int) := by omega
              go_enter Tryz.func153, Tryz.ntmps153
              go_wp2_with fail
              refine CALL.mono ?_
              rintro e' w1 ⟨rfl, hw1⟩
              subst hw1
              clear CALL
              go_wp2_with fail
              refine (CAL2.out _).mono ?_
              rintro e' w2 ⟨rfl, hw2⟩
              subst hw2
              go_wp2_with fail
              try go_ret2
              rw [← HQ.out]
              exact ⟨⟨_, rfl⟩, Fr.refl _ _⟩
            · rw [if_neg (by rw [hrs]; simp; exact ⟨k0, by omega, by omega⟩)] at HQ
              have a53i : decide ((9007199254740992 : Int) < (m : Int)) = false := by simp; omega
              have hev : ev < 100000 := by
                have h4 : 10 ^ k ≤ 10 ^ 4 := Nat.pow_le_pow_right (by decide) (by omega)
                have := dq (by omega)
                omega
              have LD : Hid (∀ W, Calls Tryz.prog 220 #[.float .f64 (fromIntN m), .int .i64 (-(ev : Int))] W _) := fun W => ldexp_any (w := W) (fromInt_fin (m : Int)).1 (fromInt_fin (m : Int)).2 (-(ev : Int)) (by omega)
              clear dq
              go_enter Tryz.func153, Tryz.ntmps153
              go_wp2_with fail
              refine CALL.mono ?_
              rintro e' w1 ⟨rfl, hw1⟩
              subst hw1
              clear CALL
              go_wp2_with fail
              refine (CAL2.out _).mono ?_
              rintro e' w2 ⟨rfl, hw2⟩
              subst hw2
              go_wp2_with fail
              refine (LD.out _).mono ?_
              rintro e' w3 ⟨rfl, f3⟩
              go_wp2_with fail
              try go_ret2
              rw [← HQ.out]
              exact ⟨rfl, f3⟩
          · rw [if_pos (.inr (.inr (.inl (fun e => r0 (by rw [← HRL.out, e]; rfl)))))] at HQ
            have hrl : ¬ (((N - RL : Nat) : Int) = (N : Int)) := by omega
            obtain ⟨J, HJ⟩ : ∃ J : Nat, Hid (N - RL = J) := ⟨_, rfl⟩
            rw [HJ.out] at CAL2 hrl
            go_enter Tryz.func153, Tryz.ntmps153
            go_wp2_with fail
            refine CALL.mono ?_
            rintro e' w1 ⟨rfl, hw1⟩
            subst hw1
            clear CALL
            go_wp2_with fail
            refine (CAL2.out _).mono ?_
            rintro e' w2 ⟨rfl, hw2⟩
            subst hw2
            go_wp2_with fail
            try go_ret2
            rw [← HQ.out]
            exact ⟨⟨_, rfl⟩, Fr.refl _ _⟩
    · have e45 : ((c3 :: s3).head? == some 45) = false := by simpa using h45
      simp only [e45, Bool.false_eq_true, if_false]
      have b45 : ((c3.toNat : Int) == 45) = false := by
        have : c3.toNat ≠ 45 := fun e => h45 (UInt8.toNat_inj.1 e)
        simp; omega
      obtain ⟨c3n, HC3⟩ : ∃ c3n, Hid (c3.toNat = c3n) := ⟨_, rfl⟩
      rw [HC3.out] at hix4 b45
      have hc3l : c3n < 256 := by rw [← HC3.out]; exact c3.toNat_lt
      clear e45 h45
      obtain ⟨s2, HSS⟩ : ∃ s2, Hid (c3 :: s3 = s2) := ⟨_, rfl⟩
      rw [HSS.out] at HDR HS2 ⊢
      have CAL2 : Hid (∀ W, Calls Tryz.prog 219 #[sv s, .int .i64 ((nd : Int) + 1), .int .u64 0] W fun e w' => e = .returned (.tuple #[.int .u64 (digs s2 0).1, .int .i64 (digs s2 0).2.1, .int .i64 ((N - (digs s2 0).2.2.length : Nat) : Int)]) ∧ w' = W) := fun W => by
        have := digs_any (w := W) s (nd + 1) 0 (by rw [HN.out]; omega) (by rw [HN.out]; omega) (by decide)
        rw [HDR.out, HN.out, show ((nd + 1 : Nat) : Int) = (nd : Int) + 1 by omega, show ((0 : Nat) : Int) = 0 from rfl] at this
        exact this
      have dl := digs_len s2 0
      have dt := digs_lt s2 0 (by decide)
      have dq := digs_val s2 0
      rw [HS2.out] at dl
      generalize digs s2 0 = q at *
      obtain ⟨ev, k, rs⟩ := q
      dsimp only at CAL2 dl dt dq ⊢
      obtain ⟨RL, HRL⟩ : ∃ RL, Hid (rs.length = RL) := ⟨_, rfl⟩
      rw [HRL.out] at dl CAL2
      have hk24 : k ≤ 24 := by omega
      clear hdt
      obtain ⟨Q, HQ⟩ : ∃ Q : Ending → World → Prop, Hid (MagPost (if k = 0 ∨ k > 4 ∨ rs ≠ [] ∨ m > 9007199254740992 then none else some (ldexpN (fromIntN m) (ev))) w = Q) := ⟨_, rfl⟩
      rw [HQ.out]
      by_cases k0 : k = 0
      · rw [if_pos (.inl k0)] at HQ
        subst k0
        go_enter Tryz.func153, Tryz.ntmps153
        go_wp2_with fail
        refine CALL.mono ?_
        rintro e' w1 ⟨rfl, hw1⟩
        subst hw1
        clear CALL
        go_wp2_with fail
        refine (CAL2.out _).mono ?_
        rintro e' w2 ⟨rfl, hw2⟩
        subst hw2
        go_wp2_with fail
        try go_ret2
        rw [← HQ.out]
        exact ⟨⟨_, rfl⟩, Fr.refl _ _⟩
      · have bk0 : ((k : Int) == 0) = false := by simp; omega
        by_cases k4 : k > 4
        · rw [if_pos (.inr (.inl k4))] at HQ
          have k4i : (4 : Int) < (k : Int) := by omega
          go_enter Tryz.func153, Tryz.ntmps153
          go_wp2_with fail
          refine CALL.mono ?_
          rintro e' w1 ⟨rfl, hw1⟩
          subst hw1
          clear CALL
          go_wp2_with fail
          refine (CAL2.out _).mono ?_
          rintro e' w2 ⟨rfl, hw2⟩
          subst hw2
          go_wp2_with fail
          try go_ret2
          rw [← HQ.out]
          exact ⟨⟨_, rfl⟩, Fr.refl _ _⟩
        · have k4i : decide ((4 : Int) < (k : Int)) = false := by simp; omega
          by_cases r0 : RL = 0
          · subst r0
            have hrs : rs = [] := List.length_eq_zero_iff.1 HRL.out
            rw [show ((N - 0 : Nat) : Int) = (N : Int) by simp] at CAL2
            by_cases a53 : m > 9007199254740992
            · rw [if_pos (.inr (.inr (.inr a53)))] at HQ
              have a53i : (9007199254740992 : Int) < (m : Int) := by omega
              go_enter Tryz.func153, Tryz.ntmps153
              go_wp2_with fail
              refine CALL.mono ?_
              rintro e' w1 ⟨rfl, hw1⟩
              subst hw1
              clear CALL
              go_wp2_with fail
              refine (CAL2.out _).mono ?_
              rintro e' w2 ⟨rfl, hw2⟩
              subst hw2
              go_wp2_with fail
              try go_ret2
              rw [← HQ.out]
              exact ⟨⟨_, rfl⟩, Fr.refl _ _⟩
            · rw [if_neg (by rw [hrs]; simp; exact ⟨k0, by omega, by omega⟩)] at HQ
              have a53i : decide ((9007199254740992 : Int) < (m : Int)) = false := by simp; omega
              have hev : ev < 100000 := by
                have h4 : 10 ^ k ≤ 10 ^ 4 := Nat.pow_le_pow_right (by decide) (by omega)
                have := dq (by omega)
                omega
              have LD : Hid (∀ W, Calls Tryz.prog 220 #[.float .f64 (fromIntN m), .int .i64 (ev)] W _) := fun W => ldexp_any (w := W) (fromInt_fin (m : Int)).1 (fromInt_fin (m : Int)).2 (ev) (by omega)
              clear dq
              go_enter Tryz.func153, Tryz.ntmps153
              go_wp2_with fail
              refine CALL.mono ?_
              rintro e' w1 ⟨rfl, hw1⟩
              subst hw1
              clear CALL
              go_wp2_with fail
              refine (CAL2.out _).mono ?_
              rintro e' w2 ⟨rfl, hw2⟩
              subst hw2
              go_wp2_with fail
              refine (LD.out _).mono ?_
              rintro e' w3 ⟨rfl, f3⟩
              go_wp2_with fail
              try go_ret2
              rw [← HQ.out]
              exact ⟨rfl, f3⟩
          · rw [if_pos (.inr (.inr (.inl (fun e => r0 (by rw [← HRL.out, e]; rfl)))))] at HQ
            have hrl : ¬ (((N - RL : Nat) : Int) = (N : Int)) := by omega
            obtain ⟨J, HJ⟩ : ∃ J : Nat, Hid (N - RL = J) := ⟨_, rfl⟩
            rw [HJ.out] at CAL2 hrl
            go_enter Tryz.func153, Tryz.ntmps153
            go_wp2_with fail
            refine CALL.mono ?_
            rintro e' w1 ⟨rfl, hw1⟩
            subst hw1
            clear CALL
            go_wp2_with fail
            refine (CAL2.out _).mono ?_
            rintro e' w2 ⟨rfl, hw2⟩
            subst hw2
            go_wp2_with fail
            try go_ret2
            rw [← HQ.out]
            exact ⟨⟨_, rfl⟩, Fr.refl _ _⟩
theorem mag_any (hs : s.length ≤ 24) : Calls Tryz.prog 153 #[sv s] w (MagPost (magN s) w) := by
  unfold magN
  by_cases hi : s = [105, 110, 102]
  · rw [if_pos hi]
    subst hi
    exact mag_inf
  · rw [if_neg hi]
    dsimp only
    by_cases hb : (digs s 0).2.1 = 0 ∨ (digs s 0).2.1 > 16
    · rw [if_pos hb]
      exact mag_bad hi hs hb
    · rw [if_neg hb]
      obtain ⟨⟨m, nd, rest⟩, hd⟩ : ∃ r, digs s 0 = r := ⟨_, rfl⟩
      rw [hd] at hb ⊢
      dsimp only at hb ⊢
      cases rest with
      | nil => exact mag_whole hi hs hd (by omega) (by omega)
      | cons c s2 =>
        dsimp only
        by_cases h46 : c = 46
        · rw [if_pos h46]
          subst h46
          exact mag_dot hi hs hd (by omega) (by omega)
        · rw [if_neg h46]
          by_cases h112 : c = 112
          · rw [if_pos h112]
            subst h112
            exact mag_p hi hs hd (by omega) (by omega)
          · rw [if_neg h112]
            exact mag_other hi hs hd (by omega) (by omega) h46 h112
end
end Go.Proofs.Qxb6500574aGreatDoor
