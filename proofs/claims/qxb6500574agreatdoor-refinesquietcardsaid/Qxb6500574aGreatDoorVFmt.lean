/-
  THE WALK of num: Format.
-/
import Derived.Test.Qxb6500574aGreatDoorVLay
import Derived.Test.Qxb6500574aGreatDoorVArith
import Derived.Test.Qxb6500574aGreatDoorVFmtP
namespace Go.Proofs.Qxb6500574aGreatDoor
open Go Go.RowKit
set_option linter.unusedVariables false
set_option linter.unusedSimpArgs false

/-- the buffer begins with S -/
def Txt (w : World) (b : Nat) (S : Bs) : Prop := ∃ l : Bs, Buf w b l ∧ l.length = 24 ∧ l.take S.length = S
theorem Txt.put {w : World} {b : Nat} {S : Bs} (h : Txt w b S) (hl : S.length < 24) (c : UInt8) : Txt (w.setCell ⟨b, S.length, none⟩ (.int .u8 c.toNat)) b (S ++ [c]) := by
  obtain ⟨l, h1, h2, h3⟩ := h
  refine ⟨l.set S.length c, h1.put _ c, by simpa using h2, ?_⟩
  rw [List.length_append, List.length_singleton, List.take_add_one, List.take_set_of_le (Nat.le_refl _), h3, List.getElem?_set_self (by omega)]
  rfl
theorem Txt.at {w : World} {b : Nat} {S : Bs} (h : Txt w b S) {j : Nat} (hj : j < 24) : (∃ x : UInt8, w.cell? ⟨b, j, none⟩ = some (.int .u8 x.toNat)) ∧ w.frozen? ⟨b, j, none⟩ = false ∧ b < w.heap.size := by
  obtain ⟨l, h1, h2, h3⟩ := h
  exact ⟨h1.at (by omega), Has.frozen h1 j, Has.lt h1⟩
theorem Txt.cells {w : World} {b : Nat} {S : Bs} (h : Txt w b S) : ∀ k (hk : k < S.length), w.cell? ((⟨b, 0, none⟩ : Addr).add k) = some (.int .u8 (S[k].toNat : Int)) := by
  obtain ⟨l, h1, h2, h3⟩ := h
  intro k hk
  have hadd : (⟨b, 0, none⟩ : Addr).add k = ⟨b, k, none⟩ := by unfold Addr.add; split <;> simp_all
  have e : l[k]? = S[k]? := by
    conv => rhs; rw [← h3]
    rw [List.getElem?_take_of_lt hk]
  rw [hadd, Has.cell h1, bflat, List.getElem?_toArray, List.getElem?_map, e, List.getElem?_eq_getElem hk]
  rfl
theorem Txt.start {w : World} {b : Nat} {l : Bs} (h : Buf w b l) (hl : l.length = 24) : Txt w b [] := ⟨l, h, hl, rfl⟩
theorem Txt.fr {w w' : World} {b : Nat} {S : Bs} (h : Txt w b S) (hf : Fr (fun _ => False) w w') : Txt w' b S := by
  obtain ⟨l, h1, h2, h3⟩ := h
  exact ⟨l, Has.fr h1 hf (fun x => x), h2, h3⟩
section
variable {w : World}
theorem lay_txt {b u : Nat} {S : Bs} (h : Txt w b S) (hu : u < 18446744073709551616) (hi : S.length + (decN u).length ≤ 24) :
    Calls Tryz.prog 70 #[.slice (some ⟨b, 0, none⟩) 24 24, .int .i64 S.length, .int .u64 u] w fun e w' => e = .returned (.int .i64 ((S ++ decN u).length : Nat)) ∧ Txt w' b (S ++ decN u) ∧ Fr (fun j => j = b) w w' := by
  obtain ⟨l, h1, h2, h3⟩ := h
  refine (lay_any h1 h2 hu hi).mono ?_
  rintro e w' ⟨rfl, q1, q2⟩
  refine ⟨by rw [List.length_append], ⟨_, q1, by simp; omega, ?_⟩, q2⟩
  rw [h3, List.take_append_of_le_length (by simp), List.take_of_length_le (by simp)]
def FmP (w : World) (bn bf : Nat) (s : Bs) (e : Ending) (w' : World) : Prop := e = .returned (sv s) ∧ (∃ S, Txt w' bf S) ∧ Fr (fun j => j = bf) w w'
set_option maxRecDepth 100000
set_option maxHeartbeats 1000000
theorem fmtW_pos {bn bf x : Nat} (hn : w.cell? ⟨bn, 0, none⟩ = some (.slice (some ⟨bf, 0, none⟩) 24 24)) (hnl : bn < w.heap.size) (hT : Txt w bf []) (hne : bn ≠ bf) (hx : x < 18446744073709551616) (h1 : fOrd x x = some .eq) (h2 : (fOrd x maxFin == some .gt) = false) (h3 : (fOrd x (maxFin + 2 ^ 63) == some .lt) = false) (hs : x / 2 ^ 63 = 0) (hlt : fOrd (x % 2 ^ 63) two53 = some .lt) (hfe : fOrd (x % 2 ^ 63) (floorN (x % 2 ^ 63)) = some .eq) :
    Calls Tryz.prog 42 #[.pointer (some ⟨bn, 0, none⟩), .int .u64 x] w (FmP w bn bf (fmtN x)) := by
  obtain ⟨Q, HQ⟩ : ∃ Q : Ending → World → Prop, Hid (FmP w bn bf (fmtN x) = Q) := ⟨_, rfl⟩
  rw [HQ.out]
  have HT : Hid (Txt w bf []) := hT
  have hnan : isNan x = false := by
    have e : isNan x = (fOrd x x != some .eq) := rfl
    rw [e, h1]; rfl
  have HNN : Hid (isNan x = false) := hnan
  have H2 : Hid ((fOrd x maxFin == some .gt) = false) := h2
  have H3 : Hid ((fOrd x (maxFin + 2 ^ 63) == some .lt) = false) := h3
  have HX : Hid (x < 18446744073709551616) := hx
  have HS : Hid (x / 2 ^ 63 = 0) := hs
  have g1 : FloatKind.f64.format.order x x = some .eq := h1
  have g2 : (FloatKind.f64.format.order x 9218868437227405311 == some .gt) = false := h2
  have g3 : (FloatKind.f64.format.order x 18442240474082181119 == some .lt) = false := h3
  have hal : x < 9223372036854775808 := by omega
  have hanan : isNan x = false := hnan
  have ham : x % 2 ^ 63 = x := by omega
  have hsg : (if x / 2 ^ 63 = 0 then ([] : Bs) else [45]) = [] := if_pos hs
  have htop : ((x : Int) / 4503599627370496 / 2048) = 0 := by omega
  rw [ham] at hlt hfe
  have g4 : (FloatKind.f64.format.order x 4845873199050653696 == some .lt) = true := by rw [show FloatKind.f64.format.order x 4845873199050653696 = some .lt from hlt]; rfl
  clear hnan h2 h3 hT h1
  go_enter Tryz.func42, Tryz.ntmps42
  go_wp2_with fail
  rw [run_frombits]
  go_wp2_with fail
  refine (floor_any x).mono ?_
  rintro e' w1 ⟨⟨r, rfl, r1, r2⟩, f1⟩
  have hr := r1 hanan
  subst hr
  have T2 := Txt.fr HT.out f1
  have g5 : FloatKind.f64.format.order x (floorN x) = some .eq := hfe
  have HF1 : Hid (Fr (fun j => j = bf) w w1) := (Fr.refl (fun j => j = bf) w).trans f1 (fun _ _ x => x.elim)
  clear r1 r2 f1
  obtain ⟨n, hn1, hn2⟩ := toInt_whole hal hlt
  have hcv : ∀ w, (convert 156 36 (.float .f64 x)).run Tryz.prog w = .ok (.int .u64 n) w := fun w => run_convert_float_int w 156 36 .f64 .u64 x n (by kernel_rfl) (by kernel_rfl) (by
    unfold floatToIntVal
    rw [hn1]
    exact if_pos ⟨by rw [show IntKind.u64.min = 0 from rfl]; omega, by rw [show IntKind.u64.max = 18446744073709551615 from rfl]; omega⟩)
  have hfm : fmtN x = ([] : Bs) ++ decN n := by
    unfold fmtN
    rw [if_neg (by rw [HNN.out]; decide), if_neg (by rw [H2.out]; decide), if_neg (by rw [H3.out]; decide)]
    dsimp only
    rw [ham, hsg, if_pos (by rw [hlt, hfe]; rfl), hn1]
    rfl
  have HFM : Hid (fmtN x = ([] : Bs) ++ decN n) := hfm
  have hdl := decN_len2 n
  clear hfm hn1 hlt hfe
  go_wp2_with (simp only [hcv])
  refine (lay_txt (S := ([] : Bs)) T2 (by omega) (by simp; omega)).mono ?_
  rintro e' w2 ⟨rfl, q1, q2⟩
  have hconv := run_convert_bytes_back (P := Tryz.prog) w2 49 9 5 ⟨bf, 0, none⟩ 24 (([] : Bs) ++ decN n) (by kernel_rfl) (by kernel_rfl) (by kernel_rfl) q1.cells
  have hsl : (([] : Bs) ++ decN n).length ≤ 24 := by simp; omega
  obtain ⟨SL, HSL⟩ : ∃ N : Nat, Hid ((([] : Bs) ++ decN n).length = N) := ⟨(([] : Bs) ++ decN n).length, Eq.refl (([] : Bs) ++ decN n).length⟩
  have FIN : Hid (Q (.returned (sv (([] : Bs) ++ decN n))) w2) := by
    rw [← HQ.out, HFM.out]
    exact ⟨rfl, ⟨_, q1⟩, HF1.out.trans q2 (fun _ _ x => x)⟩
  rw [HSL.out] at hconv hsl ⊢
  clear q1 q2 hdl
  go_wp2_with fail
  exact FIN.out
theorem fmtW_neg {bn bf x : Nat} (hn : w.cell? ⟨bn, 0, none⟩ = some (.slice (some ⟨bf, 0, none⟩) 24 24)) (hnl : bn < w.heap.size) (hT : Txt w bf []) (hne : bn ≠ bf) (hx : x < 18446744073709551616) (h1 : fOrd x x = some .eq) (h2 : (fOrd x maxFin == some .gt) = false) (h3 : (fOrd x (maxFin + 2 ^ 63) == some .lt) = false) (hs : x / 2 ^ 63 ≠ 0) (hlt : fOrd (x % 2 ^ 63) two53 = some .lt) (hfe : fOrd (x % 2 ^ 63) (floorN (x % 2 ^ 63)) = some .eq) :
    Calls Tryz.prog 42 #[.pointer (some ⟨bn, 0, none⟩), .int .u64 x] w (FmP w bn bf (fmtN x)) := by
  obtain ⟨Q, HQ⟩ : ∃ Q : Ending → World → Prop, Hid (FmP w bn bf (fmtN x) = Q) := ⟨_, rfl⟩
  rw [HQ.out]
  have HT : Hid (Txt w bf []) := hT
  have hnan : isNan x = false := by
    have e : isNan x = (fOrd x x != some .eq) := rfl
    rw [e, h1]; rfl
  have HNN : Hid (isNan x = false) := hnan
  have H2 : Hid ((fOrd x maxFin == some .gt) = false) := h2
  have H3 : Hid ((fOrd x (maxFin + 2 ^ 63) == some .lt) = false) := h3
  have HX : Hid (x < 18446744073709551616) := hx
  have HS : Hid (x / 2 ^ 63 ≠ 0) := hs
  have g1 : FloatKind.f64.format.order x x = some .eq := h1
  have g2 : (FloatKind.f64.format.order x 9218868437227405311 == some .gt) = false := h2
  have g3 : (FloatKind.f64.format.order x 18442240474082181119 == some .lt) = false := h3
  have hxr := xor63 hx hs
  obtain ⟨a, HA⟩ : ∃ a : Nat, Hid (x % 2 ^ 63 = a) := ⟨x % 2 ^ 63, Eq.refl (x % 2 ^ 63)⟩
  have hal : a < 9223372036854775808 := by have := HA.out; omega
  have hanan : isNan a = false := by rw [← HA.out, ← hxr]; exact nan_xor hx hnan
  have ham : x % 2 ^ 63 = a := HA.out
  rw [ham] at hxr
  have hsg : (if x / 2 ^ 63 = 0 then ([] : Bs) else [45]) = [45] := if_neg hs
  have htop : ((x : Int) / 4503599627370496 / 2048 != 0) = true := by
    have : x / 2 ^ 63 = 1 := by omega
    have h2 : (x : Int) / 4503599627370496 / 2048 = 1 := by omega
    rw [h2]; rfl
  obtain ⟨⟨x0, hx0⟩, hf0, hb0⟩ := hT.at (j := 0) (by omega)
  have T1 := hT.put (by decide) 45
  simp only [List.length_nil, List.nil_append] at T1
  have e45 : ((45 : UInt8).toNat : Int) = 45 := rfl
  rw [e45] at T1
  rw [ham] at hlt hfe
  have g4 : (FloatKind.f64.format.order a 4845873199050653696 == some .lt) = true := by rw [show FloatKind.f64.format.order a 4845873199050653696 = some .lt from hlt]; rfl
  clear hnan h2 h3 hT h1
  go_enter Tryz.func42, Tryz.ntmps42
  go_wp2_with fail
  rw [run_frombits]
  go_wp2_with fail
  rw [run_negF, hxr]
  go_wp2_with fail
  refine (floor_any a).mono ?_
  rintro e' w1 ⟨⟨r, rfl, r1, r2⟩, f1⟩
  have hr := r1 hanan
  subst hr
  have T2 := Txt.fr T1 f1
  have g5 : FloatKind.f64.format.order a (floorN a) = some .eq := hfe
  have HF1 : Hid (Fr (fun j => j = bf) w w1) := ((Fr.refl (fun j => j = bf) w).setCell (p := ⟨bf, 0, none⟩) (.inl rfl) _).trans f1 (fun _ _ x => x.elim)
  clear r1 r2 f1
  obtain ⟨n, hn1, hn2⟩ := toInt_whole hal hlt
  have hcv : ∀ w, (convert 156 36 (.float .f64 a)).run Tryz.prog w = .ok (.int .u64 n) w := fun w => run_convert_float_int w 156 36 .f64 .u64 a n (by kernel_rfl) (by kernel_rfl) (by
    unfold floatToIntVal
    rw [hn1]
    exact if_pos ⟨by rw [show IntKind.u64.min = 0 from rfl]; omega, by rw [show IntKind.u64.max = 18446744073709551615 from rfl]; omega⟩)
  have hfm : fmtN x = ([45] : Bs) ++ decN n := by
    unfold fmtN
    rw [if_neg (by rw [HNN.out]; decide), if_neg (by rw [H2.out]; decide), if_neg (by rw [H3.out]; decide)]
    dsimp only
    rw [ham, hsg, if_pos (by rw [hlt, hfe]; rfl), hn1]
    rfl
  have HFM : Hid (fmtN x = ([45] : Bs) ++ decN n) := hfm
  have hdl := decN_len2 n
  clear hfm hn1 hlt hfe
  go_wp2_with (simp only [hcv])
  refine (lay_txt (S := ([45] : Bs)) T2 (by omega) (by simp; omega)).mono ?_
  rintro e' w2 ⟨rfl, q1, q2⟩
  have hconv := run_convert_bytes_back (P := Tryz.prog) w2 49 9 5 ⟨bf, 0, none⟩ 24 (([45] : Bs) ++ decN n) (by kernel_rfl) (by kernel_rfl) (by kernel_rfl) q1.cells
  have hsl : (([45] : Bs) ++ decN n).length ≤ 24 := by simp; omega
  obtain ⟨SL, HSL⟩ : ∃ N : Nat, Hid ((([45] : Bs) ++ decN n).length = N) := ⟨(([45] : Bs) ++ decN n).length, Eq.refl (([45] : Bs) ++ decN n).length⟩
  have FIN : Hid (Q (.returned (sv (([45] : Bs) ++ decN n))) w2) := by
    rw [← HQ.out, HFM.out]
    exact ⟨rfl, ⟨_, q1⟩, HF1.out.trans q2 (fun _ _ x => x)⟩
  rw [HSL.out] at hconv hsl ⊢
  clear q1 q2 hdl
  go_wp2_with fail
  exact FIN.out
theorem fmtO_pos0b {bn bf x : Nat} (hn : w.cell? ⟨bn, 0, none⟩ = some (.slice (some ⟨bf, 0, none⟩) 24 24)) (hnl : bn < w.heap.size) (hT : Txt w bf []) (hne : bn ≠ bf) (hx : x < 18446744073709551616) (h1 : fOrd x x = some .eq) (h2 : (fOrd x maxFin == some .gt) = false) (h3 : (fOrd x (maxFin + 2 ^ 63) == some .lt) = false) (hs : x / 2 ^ 63 = 0) (hlt : ¬ fOrd (x % 2 ^ 63) two53 = some .lt) (hex0 : x / 4503599627370496 % 2048 = 0) (hmz : x % 4503599627370496 ≠ 0) :
    Calls Tryz.prog 42 #[.pointer (some ⟨bn, 0, none⟩), .int .u64 x] w (FmP w bn bf (fmtN x)) := by
  obtain ⟨Q, HQ⟩ : ∃ Q : Ending → World → Prop, Hid (FmP w bn bf (fmtN x) = Q) := ⟨_, rfl⟩
  rw [HQ.out]
  have HT : Hid (Txt w bf []) := hT
  have hnan : isNan x = false := by
    have e : isNan x = (fOrd x x != some .eq) := rfl
    rw [e, h1]; rfl
  have HNN : Hid (isNan x = false) := hnan
  have H2 : Hid ((fOrd x maxFin == some .gt) = false) := h2
  have H3 : Hid ((fOrd x (maxFin + 2 ^ 63) == some .lt) = false) := h3
  have HX : Hid (x < 18446744073709551616) := hx
  have HS : Hid (x / 2 ^ 63 = 0) := hs
  have g1 : FloatKind.f64.format.order x x = some .eq := h1
  have g2 : (FloatKind.f64.format.order x 9218868437227405311 == some .gt) = false := h2
  have g3 : (FloatKind.f64.format.order x 18442240474082181119 == some .lt) = false := h3
  have hal : x < 9223372036854775808 := by omega
  have hanan : isNan x = false := hnan
  have ham : x % 2 ^ 63 = x := by omega
  have hsg : (if x / 2 ^ 63 = 0 then ([] : Bs) else [45]) = [] := if_pos hs
  have htop : ((x : Int) / 4503599627370496 / 2048) = 0 := by omega
  have hm0 : bits .and .u64 (x : Int) (bits .xor .u64 IntKind.u64.max ((x : Int) / 4503599627370496 * 4503599627370496)) = ((x % 4503599627370496 : Nat) : Int) := by
    have hle := Nat.div_mul_le_self x 4503599627370496
    rw [show IntKind.u64.max = ((18446744073709551615 : Nat) : Int) from rfl, show (x : Int) / 4503599627370496 * 4503599627370496 = ((x / 4503599627370496 * 4503599627370496 : Nat) : Int) by omega, bits_xor_u64_nat _ _ (by decide) (by omega), bits_and_u64_nat _ _ hx (Nat.xor_lt_two_pow (n := 64) (by decide) (by omega)), mask52 hx]
  have hexv : bits .and .u64 ((x : Int) / 4503599627370496) 2047 = ((x / 4503599627370496 % 2048 : Nat) : Int) := by
    rw [show (2047 : Int) = ((2047 : Nat) : Int) from rfl, show (x : Int) / 4503599627370496 = ((x / 4503599627370496 : Nat) : Int) by omega, bits_and_u64_nat _ _ (by omega) (by decide), and2047]
  have HEX : Hid (x / 4503599627370496 % 2048 = 0) := hex0
  rw [hex0] at hexv
  rw [ham] at hlt
  have g4 : (FloatKind.f64.format.order x 4845873199050653696 == some .lt) = false := by rw [beq_eq_false_iff_ne]; exact hlt
  have HLT : Hid (¬ fOrd x two53 = some .lt) := hlt
  clear hnan h2 h3 hT h1
  have T2 := HT.out
  obtain ⟨M, HM⟩ : ∃ M : Nat, Hid ((x % 4503599627370496) = M) := ⟨(x % 4503599627370496), Eq.refl (x % 4503599627370496)⟩
  have hM1 : M < 9007199254740992 := by have := HM.out; omega
  have hM0 : M ≠ 0 := by have := HM.out; omega
  rw [HM.out] at hm0
  go_enter Tryz.func42, Tryz.ntmps42
  go_wp2_with fail
  rw [run_frombits]
  go_wp2_with fail
  go_loopw [12, 13] (fun v12 v13 wr => ∃ (t : Nat), t < 53 ∧ v12 = .int .i64 t ∧ v13 = .int .u64 ((2 ^ t : Nat) : Int) ∧ wr = w ∧ Hid (M % 2 ^ t = 0 ∧ trail 53 M = t + trail (53 - t) (M / 2 ^ t))) (fun v12 _ _ => 53 - (intOf v12).toNat)
  case atStart => exact ⟨0, by omega, rfl, rfl, rfl, Nat.mod_one M, by simp⟩
  case round =>
    obtain ⟨t, ht, rfl, rfl, hw, HTR⟩ := hrel
    have hw2 : w = wr := hw.symm
    subst hw2
    clear hw
    have hpos : 0 < 2 ^ t := Nat.two_pow_pos t
    have hP2 : 2 ^ t ≤ 2 ^ 52 := Nat.pow_le_pow_right (by omega) (by omega)
    have hms : M % 2 ^ (t + 1) = M % 2 ^ t + 2 ^ t * (M / 2 ^ t % 2) := Nat.mod_pow_succ
    by_cases hb : M / 2 ^ t % 2 = 0
    · have hmz1 : M % 2 ^ (t + 1) = 0 := by rw [hms, HTR.out.1, hb, Nat.mul_zero]
      have ht2 : t + 1 < 53 := by
        refine Nat.lt_of_not_le fun hge => ?_
        have : t + 1 = 53 := by omega
        rw [this, Nat.mod_eq_of_lt hM1] at hmz1
        exact hM0 hmz1
      have htr := trail_step ht hb
      have HNX : Hid (M % 2 ^ (t + 1) = 0 ∧ trail 53 M = (t + 1) + trail (53 - (t + 1)) (M / 2 ^ (t + 1))) := ⟨hmz1, by have := HTR.out.2; omega⟩
      have hand : bits .and .u64 (M : Int) ((2 ^ t : Nat) : Int) = 0 := by rw [bits_and_u64_nat _ _ (by omega) (by omega), and_bit0 hb]; rfl
      obtain ⟨P, HP⟩ : ∃ P : Nat, Hid (2 ^ t = P) := ⟨2 ^ t, Eq.refl (2 ^ t)⟩
      rw [HP.out] at hpos hP2 hand ⊢
      clear hb htr hmz1 hms
      go_wp2_with fail
      exact ⟨⟨t + 1, ht2, by congr 1, by congr 1; rw [Nat.pow_succ, HP.out]; omega, trivial, HNX⟩, by simp only [intOf]; omega⟩
    · have hb1 : M / 2 ^ t % 2 = 1 := by omega
      have htr := trail_end ht hb1
      have htt : trail 53 M = t := by have := HTR.out.2; rw [htr] at this; exact this
      have HTT : Hid (trail 53 M = t) := htt
      have hand : (bits .and .u64 (M : Int) ((2 ^ t : Nat) : Int) == 0) = false := by
        rw [bits_and_u64_nat _ _ (by omega) (by omega), beq_eq_false_iff_ne]
        have := and_bit1 hb1
        omega
      obtain ⟨P, HP⟩ : ∃ P : Nat, Hid (2 ^ t = P) := ⟨2 ^ t, Eq.refl (2 ^ t)⟩
      rw [HP.out] at hpos hP2 hand ⊢
      clear hb htr hb1 hms
      have hUl := Nat.div_le_self M (2 ^ t)
      have hcast : ((M : Int) / 2 ^ t) = ((M / 2 ^ t : Nat) : Int) := by rw [Int.natCast_ediv]; simp
      obtain ⟨U, HU⟩ : ∃ U : Nat, Hid (M / 2 ^ t = U) := ⟨M / 2 ^ t, Eq.refl (M / 2 ^ t)⟩
      obtain ⟨E2, HE2⟩ : ∃ E2 : Int, Hid ((-1074 : Int) + (t : Int) = E2) := ⟨(-1074 : Int) + (t : Int), Eq.refl ((-1074 : Int) + (t : Int))⟩
      have hE2 : -1074 ≤ E2 ∧ E2 ≤ 1100 := by have := HE2.out; omega
      rw [HU.out] at hcast hUl
      have hdU := decN_len 15 U (by omega)
      have hdE := decN_len 3 E2.natAbs (by omega)
      have hfm : fmtN x = ([] : Bs) ++ decN U ++ [112] ++ (if E2 < 0 then [45] else []) ++ decN E2.natAbs := by
        have h := fmtN_other HX.out HNN.out H2.out H3.out (fun h => HLT.out (by have := h.1; rw [ham] at this; exact this)) (M := M) (t := t) (E := (-1074 : Int)) (by rw [if_pos HEX.out]; exact HM.out.symm) (by rw [if_pos HEX.out]) HTT.out
        rw [hsg, HU.out, HE2.out] at h
        exact h
      have HFM : Hid (fmtN x = ([] : Bs) ++ decN U ++ [112] ++ (if E2 < 0 then [45] else []) ++ decN E2.natAbs) := hfm
      clear hfm
      have hE2e : (-1074 : Int) + (t : Int) = E2 := HE2.out
      go_wp2_with fail
      refine (lay_txt (S := ([] : Bs)) T2 (by omega) (by simp; omega)).mono ?_
      rintro e' w2 ⟨rfl, q1, q2⟩
      have hl1 : (([] : Bs) ++ decN U).length ≤ 17 := by simp; omega
      obtain ⟨S1, HS1⟩ : ∃ S1 : Bs, Hid (([] : Bs) ++ decN U = S1) := ⟨([] : Bs) ++ decN U, Eq.refl (([] : Bs) ++ decN U)⟩
      rw [HS1.out] at q1 hl1 ⊢
      rw [HS1.out] at HFM
      have T3 := q1.put (by omega) 112
      obtain ⟨⟨y0, hy0⟩, hy1, hy2⟩ := q1.at (j := S1.length) (by omega)
      have e112 : ((112 : UInt8).toNat : Int) = 112 := rfl
      rw [e112] at T3
      have HF2 : Hid (Fr (fun j => j = bf) w (w2.setCell ⟨bf, S1.length, none⟩ (.int .u8 112))) := ((Fr.refl (fun j => j = bf) w).trans q2 (fun _ _ x => x)).setCell (p := ⟨bf, S1.length, none⟩) (.inl rfl) _
      by_cases hE0 : E2 < 0
      · rw [if_pos hE0] at HFM
        have hl3 : (S1 ++ [112]).length = S1.length + 1 := by simp
        have T4 := T3.put (by rw [hl3]; omega) 45
        obtain ⟨⟨z0, hz0⟩, hz1, hz2⟩ := T3.at (j := S1.length + 1) (by omega)
        have e45' : ((45 : UInt8).toNat : Int) = 45 := rfl
        rw [e45', hl3] at T4
        have HF3 : Hid (Fr (fun j => j = bf) w ((w2.setCell ⟨bf, S1.length, none⟩ (.int .u8 112)).setCell ⟨bf, S1.length + 1, none⟩ (.int .u8 45))) := HF2.out.setCell (p := ⟨bf, S1.length + 1, none⟩) (.inl rfl) _
        have hwr : IntKind.u64.wrap (-E2) = ((E2.natAbs : Nat) : Int) := by rw [IntKind.wrap_u64]; omega
        have hlen4 : (((S1 ++ [112] ++ [45]).length : Nat) : Int) = (S1.length : Int) + 1 + 1 := by simp; omega
        have HT4 : Hid (Txt ((w2.setCell ⟨bf, S1.length, none⟩ (.int .u8 112)).setCell ⟨bf, S1.length + 1, none⟩ (.int .u8 45)) bf (S1 ++ [112] ++ [45])) := T4
        have HLEN4 : Hid ((((S1 ++ [112] ++ [45]).length : Nat) : Int) = (S1.length : Int) + 1 + 1) := hlen4
        have hbnd : (S1 ++ [112] ++ [45] ++ decN E2.natAbs).length ≤ 24 := by simp; omega
        clear T3 T4 q1 q2 hl3 hlen4
        go_wp2_with fail
        have LAY := lay_txt (u := E2.natAbs) HT4.out (by omega) (by simp; omega)
        rw [HLEN4.out] at LAY
        refine LAY.mono ?_
        clear LAY
        rintro e' w3 ⟨rfl, v1, v2⟩
        have hconv := run_convert_bytes_back (P := Tryz.prog) w3 49 9 5 ⟨bf, 0, none⟩ 24 (S1 ++ [112] ++ [45] ++ decN E2.natAbs) (by kernel_rfl) (by kernel_rfl) (by kernel_rfl) v1.cells
        obtain ⟨SF, HSF⟩ : ∃ SF : Bs, Hid (S1 ++ [112] ++ [45] ++ decN E2.natAbs = SF) := ⟨(S1 ++ [112] ++ [45] ++ decN E2.natAbs : Bs), Eq.refl (S1 ++ [112] ++ [45] ++ decN E2.natAbs : Bs)⟩
        have FIN : Hid (Q (.returned (sv (S1 ++ [112] ++ [45] ++ decN E2.natAbs))) w3) := by
          rw [← HQ.out, HFM.out]
          exact ⟨rfl, ⟨_, v1⟩, HF3.out.trans v2 (fun _ _ x => x)⟩
        rw [HSF.out] at hconv hbnd FIN ⊢
        clear v1 v2
        go_wp2_with fail
        exact FIN.out
      · exact absurd (show E2 < 0 by have := HE2.out; omega) hE0
theorem fmtO_pos0f {bn bf x : Nat} (hn : w.cell? ⟨bn, 0, none⟩ = some (.slice (some ⟨bf, 0, none⟩) 24 24)) (hnl : bn < w.heap.size) (hT : Txt w bf []) (hne : bn ≠ bf) (hx : x < 18446744073709551616) (h1 : fOrd x x = some .eq) (h2 : (fOrd x maxFin == some .gt) = false) (h3 : (fOrd x (maxFin + 2 ^ 63) == some .lt) = false) (hs : x / 2 ^ 63 = 0) (hlt : fOrd (x % 2 ^ 63) two53 = some .lt) (hfe : ¬ fOrd (x % 2 ^ 63) (floorN (x % 2 ^ 63)) = some .eq) (hex0 : x / 4503599627370496 % 2048 = 0) (hmz : x % 4503599627370496 ≠ 0) :
    Calls Tryz.prog 42 #[.pointer (some ⟨bn, 0, none⟩), .int .u64 x] w (FmP w bn bf (fmtN x)) := by
  obtain ⟨Q, HQ⟩ : ∃ Q : Ending → World → Prop, Hid (FmP w bn bf (fmtN x) = Q) := ⟨_, rfl⟩
  rw [HQ.out]
  have HT : Hid (Txt w bf []) := hT
  have hnan : isNan x = false := by
    have e : isNan x = (fOrd x x != some .eq) := rfl
    rw [e, h1]; rfl
  have HNN : Hid (isNan x = false) := hnan
  have H2 : Hid ((fOrd x maxFin == some .gt) = false) := h2
  have H3 : Hid ((fOrd x (maxFin + 2 ^ 63) == some .lt) = false) := h3
  have HX : Hid (x < 18446744073709551616) := hx
  have HS : Hid (x / 2 ^ 63 = 0) := hs
  have g1 : FloatKind.f64.format.order x x = some .eq := h1
  have g2 : (FloatKind.f64.format.order x 9218868437227405311 == some .gt) = false := h2
  have g3 : (FloatKind.f64.format.order x 18442240474082181119 == some .lt) = false := h3
  have hal : x < 9223372036854775808 := by omega
  have hanan : isNan x = false := hnan
  have ham : x % 2 ^ 63 = x := by omega
  have hsg : (if x / 2 ^ 63 = 0 then ([] : Bs) else [45]) = [] := if_pos hs
  have htop : ((x : Int) / 4503599627370496 / 2048) = 0 := by omega
  have hm0 : bits .and .u64 (x : Int) (bits .xor .u64 IntKind.u64.max ((x : Int) / 4503599627370496 * 4503599627370496)) = ((x % 4503599627370496 : Nat) : Int) := by
    have hle := Nat.div_mul_le_self x 4503599627370496
    rw [show IntKind.u64.max = ((18446744073709551615 : Nat) : Int) from rfl, show (x : Int) / 4503599627370496 * 4503599627370496 = ((x / 4503599627370496 * 4503599627370496 : Nat) : Int) by omega, bits_xor_u64_nat _ _ (by decide) (by omega), bits_and_u64_nat _ _ hx (Nat.xor_lt_two_pow (n := 64) (by decide) (by omega)), mask52 hx]
  have hexv : bits .and .u64 ((x : Int) / 4503599627370496) 2047 = ((x / 4503599627370496 % 2048 : Nat) : Int) := by
    rw [show (2047 : Int) = ((2047 : Nat) : Int) from rfl, show (x : Int) / 4503599627370496 = ((x / 4503599627370496 : Nat) : Int) by omega, bits_and_u64_nat _ _ (by omega) (by decide), and2047]
  have HEX : Hid (x / 4503599627370496 % 2048 = 0) := hex0
  rw [hex0] at hexv
  rw [ham] at hlt hfe
  have g4 : (FloatKind.f64.format.order x 4845873199050653696 == some .lt) = true := by rw [show FloatKind.f64.format.order x 4845873199050653696 = some .lt from hlt]; rfl
  have HLT : Hid (fOrd x two53 = some .lt ∧ ¬ fOrd x (floorN x) = some .eq) := ⟨hlt, hfe⟩
  clear hnan h2 h3 hT h1
  go_enter Tryz.func42, Tryz.ntmps42
  go_wp2_with fail
  rw [run_frombits]
  go_wp2_with fail
  refine (floor_any x).mono ?_
  rintro e' w1 ⟨⟨r, rfl, r1, r2⟩, f1⟩
  have hr := r1 hanan
  subst hr
  have T2 := Txt.fr HT.out f1
  have g5 : (FloatKind.f64.format.order x (floorN x) == some .eq) = false := by rw [beq_eq_false_iff_ne]; exact HLT.out.2
  have HF1 : Hid (Fr (fun j => j = bf) w w1) := (Fr.refl (fun j => j = bf) w).trans f1 (fun _ _ x => x.elim)
  clear r1 r2 f1
  obtain ⟨M, HM⟩ : ∃ M : Nat, Hid ((x % 4503599627370496) = M) := ⟨(x % 4503599627370496), Eq.refl (x % 4503599627370496)⟩
  have hM1 : M < 9007199254740992 := by have := HM.out; omega
  have hM0 : M ≠ 0 := by have := HM.out; omega
  rw [HM.out] at hm0
  go_wp2_with fail
  go_loopw [12, 13] (fun v12 v13 wr => ∃ (t : Nat), t < 53 ∧ v12 = .int .i64 t ∧ v13 = .int .u64 ((2 ^ t : Nat) : Int) ∧ wr = w1 ∧ Hid (M % 2 ^ t = 0 ∧ trail 53 M = t + trail (53 - t) (M / 2 ^ t))) (fun v12 _ _ => 53 - (intOf v12).toNat)
  case atStart => exact ⟨0, by omega, rfl, rfl, rfl, Nat.mod_one M, by simp⟩
  case round =>
    obtain ⟨t, ht, rfl, rfl, hw, HTR⟩ := hrel
    have hw2 : w1 = wr := hw.symm
    subst hw2
    clear hw
    have hpos : 0 < 2 ^ t := Nat.two_pow_pos t
    have hP2 : 2 ^ t ≤ 2 ^ 52 := Nat.pow_le_pow_right (by omega) (by omega)
    have hms : M % 2 ^ (t + 1) = M % 2 ^ t + 2 ^ t * (M / 2 ^ t % 2) := Nat.mod_pow_succ
    by_cases hb : M / 2 ^ t % 2 = 0
    · have hmz1 : M % 2 ^ (t + 1) = 0 := by rw [hms, HTR.out.1, hb, Nat.mul_zero]
      have ht2 : t + 1 < 53 := by
        refine Nat.lt_of_not_le fun hge => ?_
        have : t + 1 = 53 := by omega
        rw [this, Nat.mod_eq_of_lt hM1] at hmz1
        exact hM0 hmz1
      have htr := trail_step ht hb
      have HNX : Hid (M % 2 ^ (t + 1) = 0 ∧ trail 53 M = (t + 1) + trail (53 - (t + 1)) (M / 2 ^ (t + 1))) := ⟨hmz1, by have := HTR.out.2; omega⟩
      have hand : bits .and .u64 (M : Int) ((2 ^ t : Nat) : Int) = 0 := by rw [bits_and_u64_nat _ _ (by omega) (by omega), and_bit0 hb]; rfl
      obtain ⟨P, HP⟩ : ∃ P : Nat, Hid (2 ^ t = P) := ⟨2 ^ t, Eq.refl (2 ^ t)⟩
      rw [HP.out] at hpos hP2 hand ⊢
      clear hb htr hmz1 hms
      go_wp2_with fail
      exact ⟨⟨t + 1, ht2, by congr 1, by congr 1; rw [Nat.pow_succ, HP.out]; omega, trivial, HNX⟩, by simp only [intOf]; omega⟩
    · have hb1 : M / 2 ^ t % 2 = 1 := by omega
      have htr := trail_end ht hb1
      have htt : trail 53 M = t := by have := HTR.out.2; rw [htr] at this; exact this
      have HTT : Hid (trail 53 M = t) := htt
      have hand : (bits .and .u64 (M : Int) ((2 ^ t : Nat) : Int) == 0) = false := by
        rw [bits_and_u64_nat _ _ (by omega) (by omega), beq_eq_false_iff_ne]
        have := and_bit1 hb1
        omega
      obtain ⟨P, HP⟩ : ∃ P : Nat, Hid (2 ^ t = P) := ⟨2 ^ t, Eq.refl (2 ^ t)⟩
      rw [HP.out] at hpos hP2 hand ⊢
      clear hb htr hb1 hms
      have hUl := Nat.div_le_self M (2 ^ t)
      have hcast : ((M : Int) / 2 ^ t) = ((M / 2 ^ t : Nat) : Int) := by rw [Int.natCast_ediv]; simp
      obtain ⟨U, HU⟩ : ∃ U : Nat, Hid (M / 2 ^ t = U) := ⟨M / 2 ^ t, Eq.refl (M / 2 ^ t)⟩
      obtain ⟨E2, HE2⟩ : ∃ E2 : Int, Hid ((-1074 : Int) + (t : Int) = E2) := ⟨(-1074 : Int) + (t : Int), Eq.refl ((-1074 : Int) + (t : Int))⟩
      have hE2 : -1074 ≤ E2 ∧ E2 ≤ 1100 := by have := HE2.out; omega
      rw [HU.out] at hcast hUl
      have hdU := decN_len 15 U (by omega)
      have hdE := decN_len 3 E2.natAbs (by omega)
      have hfm : fmtN x = ([] : Bs) ++ decN U ++ [112] ++ (if E2 < 0 then [45] else []) ++ decN E2.natAbs := by
        have h := fmtN_other HX.out HNN.out H2.out H3.out (fun h => HLT.out.2 (by have := h.2; rw [ham] at this; exact this)) (M := M) (t := t) (E := (-1074 : Int)) (by rw [if_pos HEX.out]; exact HM.out.symm) (by rw [if_pos HEX.out]) HTT.out
        rw [hsg, HU.out, HE2.out] at h
        exact h
      have HFM : Hid (fmtN x = ([] : Bs) ++ decN U ++ [112] ++ (if E2 < 0 then [45] else []) ++ decN E2.natAbs) := hfm
      clear hfm
      have hE2e : (-1074 : Int) + (t : Int) = E2 := HE2.out
      go_wp2_with fail
      refine (lay_txt (S := ([] : Bs)) T2 (by omega) (by simp; omega)).mono ?_
      rintro e' w2 ⟨rfl, q1, q2⟩
      have hl1 : (([] : Bs) ++ decN U).length ≤ 17 := by simp; omega
      obtain ⟨S1, HS1⟩ : ∃ S1 : Bs, Hid (([] : Bs) ++ decN U = S1) := ⟨([] : Bs) ++ decN U, Eq.refl (([] : Bs) ++ decN U)⟩
      rw [HS1.out] at q1 hl1 ⊢
      rw [HS1.out] at HFM
      have T3 := q1.put (by omega) 112
      obtain ⟨⟨y0, hy0⟩, hy1, hy2⟩ := q1.at (j := S1.length) (by omega)
      have e112 : ((112 : UInt8).toNat : Int) = 112 := rfl
      rw [e112] at T3
      have HF2 : Hid (Fr (fun j => j = bf) w (w2.setCell ⟨bf, S1.length, none⟩ (.int .u8 112))) := (HF1.out.trans q2 (fun _ _ x => x)).setCell (p := ⟨bf, S1.length, none⟩) (.inl rfl) _
      by_cases hE0 : E2 < 0
      · rw [if_pos hE0] at HFM
        have hl3 : (S1 ++ [112]).length = S1.length + 1 := by simp
        have T4 := T3.put (by rw [hl3]; omega) 45
        obtain ⟨⟨z0, hz0⟩, hz1, hz2⟩ := T3.at (j := S1.length + 1) (by omega)
        have e45' : ((45 : UInt8).toNat : Int) = 45 := rfl
        rw [e45', hl3] at T4
        have HF3 : Hid (Fr (fun j => j = bf) w ((w2.setCell ⟨bf, S1.length, none⟩ (.int .u8 112)).setCell ⟨bf, S1.length + 1, none⟩ (.int .u8 45))) := HF2.out.setCell (p := ⟨bf, S1.length + 1, none⟩) (.inl rfl) _
        have hwr : IntKind.u64.wrap (-E2) = ((E2.natAbs : Nat) : Int) := by rw [IntKind.wrap_u64]; omega
        have hlen4 : (((S1 ++ [112] ++ [45]).length : Nat) : Int) = (S1.length : Int) + 1 + 1 := by simp; omega
        have HT4 : Hid (Txt ((w2.setCell ⟨bf, S1.length, none⟩ (.int .u8 112)).setCell ⟨bf, S1.length + 1, none⟩ (.int .u8 45)) bf (S1 ++ [112] ++ [45])) := T4
        have HLEN4 : Hid ((((S1 ++ [112] ++ [45]).length : Nat) : Int) = (S1.length : Int) + 1 + 1) := hlen4
        have hbnd : (S1 ++ [112] ++ [45] ++ decN E2.natAbs).length ≤ 24 := by simp; omega
        clear T3 T4 q1 q2 hl3 hlen4
        go_wp2_with fail
        have LAY := lay_txt (u := E2.natAbs) HT4.out (by omega) (by simp; omega)
        rw [HLEN4.out] at LAY
        refine LAY.mono ?_
        clear LAY
        rintro e' w3 ⟨rfl, v1, v2⟩
        have hconv := run_convert_bytes_back (P := Tryz.prog) w3 49 9 5 ⟨bf, 0, none⟩ 24 (S1 ++ [112] ++ [45] ++ decN E2.natAbs) (by kernel_rfl) (by kernel_rfl) (by kernel_rfl) v1.cells
        obtain ⟨SF, HSF⟩ : ∃ SF : Bs, Hid (S1 ++ [112] ++ [45] ++ decN E2.natAbs = SF) := ⟨(S1 ++ [112] ++ [45] ++ decN E2.natAbs : Bs), Eq.refl (S1 ++ [112] ++ [45] ++ decN E2.natAbs : Bs)⟩
        have FIN : Hid (Q (.returned (sv (S1 ++ [112] ++ [45] ++ decN E2.natAbs))) w3) := by
          rw [← HQ.out, HFM.out]
          exact ⟨rfl, ⟨_, v1⟩, HF3.out.trans v2 (fun _ _ x => x)⟩
        rw [HSF.out] at hconv hbnd FIN ⊢
        clear v1 v2
        go_wp2_with fail
        exact FIN.out
      · exact absurd (show E2 < 0 by have := HE2.out; omega) hE0
theorem fmtO_pos1b {bn bf x : Nat} (hn : w.cell? ⟨bn, 0, none⟩ = some (.slice (some ⟨bf, 0, none⟩) 24 24)) (hnl : bn < w.heap.size) (hT : Txt w bf []) (hne : bn ≠ bf) (hx : x < 18446744073709551616) (h1 : fOrd x x = some .eq) (h2 : (fOrd x maxFin == some .gt) = false) (h3 : (fOrd x (maxFin + 2 ^ 63) == some .lt) = false) (hs : x / 2 ^ 63 = 0) (hlt : ¬ fOrd (x % 2 ^ 63) two53 = some .lt) (hex0 : x / 4503599627370496 % 2048 ≠ 0) :
    Calls Tryz.prog 42 #[.pointer (some ⟨bn, 0, none⟩), .int .u64 x] w (FmP w bn bf (fmtN x)) := by
  obtain ⟨Q, HQ⟩ : ∃ Q : Ending → World → Prop, Hid (FmP w bn bf (fmtN x) = Q) := ⟨_, rfl⟩
  rw [HQ.out]
  have HT : Hid (Txt w bf []) := hT
  have hnan : isNan x = false := by
    have e : isNan x = (fOrd x x != some .eq) := rfl
    rw [e, h1]; rfl
  have HNN : Hid (isNan x = false) := hnan
  have H2 : Hid ((fOrd x maxFin == some .gt) = false) := h2
  have H3 : Hid ((fOrd x (maxFin + 2 ^ 63) == some .lt) = false) := h3
  have HX : Hid (x < 18446744073709551616) := hx
  have HS : Hid (x / 2 ^ 63 = 0) := hs
  have g1 : FloatKind.f64.format.order x x = some .eq := h1
  have g2 : (FloatKind.f64.format.order x 9218868437227405311 == some .gt) = false := h2
  have g3 : (FloatKind.f64.format.order x 18442240474082181119 == some .lt) = false := h3
  have hal : x < 9223372036854775808 := by omega
  have hanan : isNan x = false := hnan
  have ham : x % 2 ^ 63 = x := by omega
  have hsg : (if x / 2 ^ 63 = 0 then ([] : Bs) else [45]) = [] := if_pos hs
  have htop : ((x : Int) / 4503599627370496 / 2048) = 0 := by omega
  have hm0 : bits .and .u64 (x : Int) (bits .xor .u64 IntKind.u64.max ((x : Int) / 4503599627370496 * 4503599627370496)) = ((x % 4503599627370496 : Nat) : Int) := by
    have hle := Nat.div_mul_le_self x 4503599627370496
    rw [show IntKind.u64.max = ((18446744073709551615 : Nat) : Int) from rfl, show (x : Int) / 4503599627370496 * 4503599627370496 = ((x / 4503599627370496 * 4503599627370496 : Nat) : Int) by omega, bits_xor_u64_nat _ _ (by decide) (by omega), bits_and_u64_nat _ _ hx (Nat.xor_lt_two_pow (n := 64) (by decide) (by omega)), mask52 hx]
  have hexv : bits .and .u64 ((x : Int) / 4503599627370496) 2047 = ((x / 4503599627370496 % 2048 : Nat) : Int) := by
    rw [show (2047 : Int) = ((2047 : Nat) : Int) from rfl, show (x : Int) / 4503599627370496 = ((x / 4503599627370496 : Nat) : Int) by omega, bits_and_u64_nat _ _ (by omega) (by decide), and2047]
  have HEX : Hid (¬ x / 4503599627370496 % 2048 = 0) := hex0
  have hexb : (((x / 4503599627370496 % 2048 : Nat) : Int) - 1075 == -1075) = false := by rw [beq_eq_false_iff_ne]; omega
  rw [ham] at hlt
  have g4 : (FloatKind.f64.format.order x 4845873199050653696 == some .lt) = false := by rw [beq_eq_false_iff_ne]; exact hlt
  have HLT : Hid (¬ fOrd x two53 = some .lt) := hlt
  clear hnan h2 h3 hT h1
  have T2 := HT.out
  obtain ⟨M, HM⟩ : ∃ M : Nat, Hid ((x % 4503599627370496 + 4503599627370496) = M) := ⟨(x % 4503599627370496 + 4503599627370496), Eq.refl (x % 4503599627370496 + 4503599627370496)⟩
  have hM1 : M < 9007199254740992 := by have := HM.out; omega
  have hM0 : M ≠ 0 := by have := HM.out; omega
  obtain ⟨M0, HM0⟩ : ∃ M0 : Nat, Hid (x % 4503599627370496 = M0) := ⟨x % 4503599627370496, Eq.refl (x % 4503599627370496)⟩
  obtain ⟨EX, HEXV⟩ : ∃ EX : Nat, Hid (x / 4503599627370496 % 2048 = EX) := ⟨x / 4503599627370496 % 2048, Eq.refl (x / 4503599627370496 % 2048)⟩
  have hor : bits .or .u64 (M0 : Int) 4503599627370496 = (M : Int) := by
    rw [← HM0.out, show (4503599627370496 : Int) = ((4503599627370496 : Nat) : Int) from rfl, bits_or_u64_nat _ _ (by omega) (by decide), or52 (by omega), HM.out]
  have hEXb : EX < 2048 := by have := HEXV.out; omega
  have hEX0 : EX ≠ 0 := by have := HEXV.out; omega
  rw [HM0.out] at hm0
  rw [HEXV.out] at hexv hexb
  go_enter Tryz.func42, Tryz.ntmps42
  go_wp2_with fail
  rw [run_frombits]
  go_wp2_with fail
  go_loopw [12, 13] (fun v12 v13 wr => ∃ (t : Nat), t < 53 ∧ v12 = .int .i64 t ∧ v13 = .int .u64 ((2 ^ t : Nat) : Int) ∧ wr = w ∧ Hid (M % 2 ^ t = 0 ∧ trail 53 M = t + trail (53 - t) (M / 2 ^ t))) (fun v12 _ _ => 53 - (intOf v12).toNat)
  case atStart => exact ⟨0, by omega, rfl, rfl, rfl, Nat.mod_one M, by simp⟩
  case round =>
    obtain ⟨t, ht, rfl, rfl, hw, HTR⟩ := hrel
    have hw2 : w = wr := hw.symm
    subst hw2
    clear hw
    have hpos : 0 < 2 ^ t := Nat.two_pow_pos t
    have hP2 : 2 ^ t ≤ 2 ^ 52 := Nat.pow_le_pow_right (by omega) (by omega)
    have hms : M % 2 ^ (t + 1) = M % 2 ^ t + 2 ^ t * (M / 2 ^ t % 2) := Nat.mod_pow_succ
    by_cases hb : M / 2 ^ t % 2 = 0
    · have hmz1 : M % 2 ^ (t + 1) = 0 := by rw [hms, HTR.out.1, hb, Nat.mul_zero]
      have ht2 : t + 1 < 53 := by
        refine Nat.lt_of_not_le fun hge => ?_
        have : t + 1 = 53 := by omega
        rw [this, Nat.mod_eq_of_lt hM1] at hmz1
        exact hM0 hmz1
      have htr := trail_step ht hb
      have HNX : Hid (M % 2 ^ (t + 1) = 0 ∧ trail 53 M = (t + 1) + trail (53 - (t + 1)) (M / 2 ^ (t + 1))) := ⟨hmz1, by have := HTR.out.2; omega⟩
      have hand : bits .and .u64 (M : Int) ((2 ^ t : Nat) : Int) = 0 := by rw [bits_and_u64_nat _ _ (by omega) (by omega), and_bit0 hb]; rfl
      obtain ⟨P, HP⟩ : ∃ P : Nat, Hid (2 ^ t = P) := ⟨2 ^ t, Eq.refl (2 ^ t)⟩
      rw [HP.out] at hpos hP2 hand ⊢
      clear hb htr hmz1 hms
      go_wp2_with fail
      exact ⟨⟨t + 1, ht2, by congr 1, by congr 1; rw [Nat.pow_succ, HP.out]; omega, trivial, HNX⟩, by simp only [intOf]; omega⟩
    · have hb1 : M / 2 ^ t % 2 = 1 := by omega
      have htr := trail_end ht hb1
      have htt : trail 53 M = t := by have := HTR.out.2; rw [htr] at this; exact this
      have HTT : Hid (trail 53 M = t) := htt
      have hand : (bits .and .u64 (M : Int) ((2 ^ t : Nat) : Int) == 0) = false := by
        rw [bits_and_u64_nat _ _ (by omega) (by omega), beq_eq_false_iff_ne]
        have := and_bit1 hb1
        omega
      obtain ⟨P, HP⟩ : ∃ P : Nat, Hid (2 ^ t = P) := ⟨2 ^ t, Eq.refl (2 ^ t)⟩
      rw [HP.out] at hpos hP2 hand ⊢
      clear hb htr hb1 hms
      have hUl := Nat.div_le_self M (2 ^ t)
      have hcast : ((M : Int) / 2 ^ t) = ((M / 2 ^ t : Nat) : Int) := by rw [Int.natCast_ediv]; simp
      obtain ⟨U, HU⟩ : ∃ U : Nat, Hid (M / 2 ^ t = U) := ⟨M / 2 ^ t, Eq.refl (M / 2 ^ t)⟩
      obtain ⟨E2, HE2⟩ : ∃ E2 : Int, Hid (((EX : Int) - 1075) + (t : Int) = E2) := ⟨((EX : Int) - 1075) + (t : Int), Eq.refl (((EX : Int) - 1075) + (t : Int))⟩
      have hE2 : -1074 ≤ E2 ∧ E2 ≤ 1100 := by have := HE2.out; omega
      rw [HU.out] at hcast hUl
      have hdU := decN_len 15 U (by omega)
      have hdE := decN_len 3 E2.natAbs (by omega)
      have hfm : fmtN x = ([] : Bs) ++ decN U ++ [112] ++ (if E2 < 0 then [45] else []) ++ decN E2.natAbs := by
        have h := fmtN_other HX.out HNN.out H2.out H3.out (fun h => HLT.out (by have := h.1; rw [ham] at this; exact this)) (M := M) (t := t) (E := ((EX : Int) - 1075)) (by rw [if_neg HEX.out]; exact HM.out.symm) (by rw [if_neg HEX.out, HEXV.out]) HTT.out
        rw [hsg, HU.out, HE2.out] at h
        exact h
      have HFM : Hid (fmtN x = ([] : Bs) ++ decN U ++ [112] ++ (if E2 < 0 then [45] else []) ++ decN E2.natAbs) := hfm
      clear hfm
      have hE2e : ((EX : Int) - 1075) + (t : Int) = E2 := HE2.out
      go_wp2_with fail
      refine (lay_txt (S := ([] : Bs)) T2 (by omega) (by simp; omega)).mono ?_
      rintro e' w2 ⟨rfl, q1, q2⟩
      have hl1 : (([] : Bs) ++ decN U).length ≤ 17 := by simp; omega
      obtain ⟨S1, HS1⟩ : ∃ S1 : Bs, Hid (([] : Bs) ++ decN U = S1) := ⟨([] : Bs) ++ decN U, Eq.refl (([] : Bs) ++ decN U)⟩
      rw [HS1.out] at q1 hl1 ⊢
      rw [HS1.out] at HFM
      have T3 := q1.put (by omega) 112
      obtain ⟨⟨y0, hy0⟩, hy1, hy2⟩ := q1.at (j := S1.length) (by omega)
      have e112 : ((112 : UInt8).toNat : Int) = 112 := rfl
      rw [e112] at T3
      have HF2 : Hid (Fr (fun j => j = bf) w (w2.setCell ⟨bf, S1.length, none⟩ (.int .u8 112))) := ((Fr.refl (fun j => j = bf) w).trans q2 (fun _ _ x => x)).setCell (p := ⟨bf, S1.length, none⟩) (.inl rfl) _
      by_cases hE0 : E2 < 0
      · rw [if_pos hE0] at HFM
        have hl3 : (S1 ++ [112]).length = S1.length + 1 := by simp
        have T4 := T3.put (by rw [hl3]; omega) 45
        obtain ⟨⟨z0, hz0⟩, hz1, hz2⟩ := T3.at (j := S1.length + 1) (by omega)
        have e45' : ((45 : UInt8).toNat : Int) = 45 := rfl
        rw [e45', hl3] at T4
        have HF3 : Hid (Fr (fun j => j = bf) w ((w2.setCell ⟨bf, S1.length, none⟩ (.int .u8 112)).setCell ⟨bf, S1.length + 1, none⟩ (.int .u8 45))) := HF2.out.setCell (p := ⟨bf, S1.length + 1, none⟩) (.inl rfl) _
        have hwr : IntKind.u64.wrap (-E2) = ((E2.natAbs : Nat) : Int) := by rw [IntKind.wrap_u64]; omega
        have hlen4 : (((S1 ++ [112] ++ [45]).length : Nat) : Int) = (S1.length : Int) + 1 + 1 := by simp; omega
        have HT4 : Hid (Txt ((w2.setCell ⟨bf, S1.length, none⟩ (.int .u8 112)).setCell ⟨bf, S1.length + 1, none⟩ (.int .u8 45)) bf (S1 ++ [112] ++ [45])) := T4
        have HLEN4 : Hid ((((S1 ++ [112] ++ [45]).length : Nat) : Int) = (S1.length : Int) + 1 + 1) := hlen4
        have hbnd : (S1 ++ [112] ++ [45] ++ decN E2.natAbs).length ≤ 24 := by simp; omega
        clear T3 T4 q1 q2 hl3 hlen4
        go_wp2_with fail
        have LAY := lay_txt (u := E2.natAbs) HT4.out (by omega) (by simp; omega)
        rw [HLEN4.out] at LAY
        refine LAY.mono ?_
        clear LAY
        rintro e' w3 ⟨rfl, v1, v2⟩
        have hconv := run_convert_bytes_back (P := Tryz.prog) w3 49 9 5 ⟨bf, 0, none⟩ 24 (S1 ++ [112] ++ [45] ++ decN E2.natAbs) (by kernel_rfl) (by kernel_rfl) (by kernel_rfl) v1.cells
        obtain ⟨SF, HSF⟩ : ∃ SF : Bs, Hid (S1 ++ [112] ++ [45] ++ decN E2.natAbs = SF) := ⟨(S1 ++ [112] ++ [45] ++ decN E2.natAbs : Bs), Eq.refl (S1 ++ [112] ++ [45] ++ decN E2.natAbs : Bs)⟩
        have FIN : Hid (Q (.returned (sv (S1 ++ [112] ++ [45] ++ decN E2.natAbs))) w3) := by
          rw [← HQ.out, HFM.out]
          exact ⟨rfl, ⟨_, v1⟩, HF3.out.trans v2 (fun _ _ x => x)⟩
        rw [HSF.out] at hconv hbnd FIN ⊢
        clear v1 v2
        go_wp2_with fail
        exact FIN.out
      · rw [if_neg hE0] at HFM
        have hl3 : (S1 ++ [112]).length = S1.length + 1 := by simp
        have hwr : IntKind.u64.wrap E2 = ((E2.natAbs : Nat) : Int) := by rw [IntKind.wrap_u64]; omega
        have hlen4 : (((S1 ++ [112]).length : Nat) : Int) = (S1.length : Int) + 1 := by simp
        have HT4 : Hid (Txt (w2.setCell ⟨bf, S1.length, none⟩ (.int .u8 112)) bf (S1 ++ [112])) := T3
        have HLEN4 : Hid ((((S1 ++ [112]).length : Nat) : Int) = (S1.length : Int) + 1) := hlen4
        have hbnd : (S1 ++ [112] ++ decN E2.natAbs).length ≤ 24 := by simp; omega
        clear T3 q1 q2 hl3 hlen4
        go_wp2_with fail
        have LAY := lay_txt (u := E2.natAbs) HT4.out (by omega) (by simp; omega)
        rw [HLEN4.out] at LAY
        refine LAY.mono ?_
        clear LAY
        rintro e' w3 ⟨rfl, v1, v2⟩
        have hconv := run_convert_bytes_back (P := Tryz.prog) w3 49 9 5 ⟨bf, 0, none⟩ 24 (S1 ++ [112] ++ decN E2.natAbs) (by kernel_rfl) (by kernel_rfl) (by kernel_rfl) v1.cells
        obtain ⟨SF, HSF⟩ : ∃ SF : Bs, Hid (S1 ++ [112] ++ decN E2.natAbs = SF) := ⟨(S1 ++ [112] ++ decN E2.natAbs : Bs), Eq.refl (S1 ++ [112] ++ decN E2.natAbs : Bs)⟩
        have FIN : Hid (Q (.returned (sv (S1 ++ [112] ++ decN E2.natAbs))) w3) := by
          rw [← HQ.out, HFM.out]
          exact ⟨by rw [List.append_nil], ⟨_, v1⟩, HF2.out.trans v2 (fun _ _ x => x)⟩
        rw [HSF.out] at hconv hbnd FIN ⊢
        clear v1 v2
        go_wp2_with fail
        exact FIN.out
theorem fmtO_pos1f {bn bf x : Nat} (hn : w.cell? ⟨bn, 0, none⟩ = some (.slice (some ⟨bf, 0, none⟩) 24 24)) (hnl : bn < w.heap.size) (hT : Txt w bf []) (hne : bn ≠ bf) (hx : x < 18446744073709551616) (h1 : fOrd x x = some .eq) (h2 : (fOrd x maxFin == some .gt) = false) (h3 : (fOrd x (maxFin + 2 ^ 63) == some .lt) = false) (hs : x / 2 ^ 63 = 0) (hlt : fOrd (x % 2 ^ 63) two53 = some .lt) (hfe : ¬ fOrd (x % 2 ^ 63) (floorN (x % 2 ^ 63)) = some .eq) (hex0 : x / 4503599627370496 % 2048 ≠ 0) :
    Calls Tryz.prog 42 #[.pointer (some ⟨bn, 0, none⟩), .int .u64 x] w (FmP w bn bf (fmtN x)) := by
  obtain ⟨Q, HQ⟩ : ∃ Q : Ending → World → Prop, Hid (FmP w bn bf (fmtN x) = Q) := ⟨_, rfl⟩
  rw [HQ.out]
  have HT : Hid (Txt w bf []) := hT
  have hnan : isNan x = false := by
    have e : isNan x = (fOrd x x != some .eq) := rfl
    rw [e, h1]; rfl
  have HNN : Hid (isNan x = false) := hnan
  have H2 : Hid ((fOrd x maxFin == some .gt) = false) := h2
  have H3 : Hid ((fOrd x (maxFin + 2 ^ 63) == some .lt) = false) := h3
  have HX : Hid (x < 18446744073709551616) := hx
  have HS : Hid (x / 2 ^ 63 = 0) := hs
  have g1 : FloatKind.f64.format.order x x = some .eq := h1
  have g2 : (FloatKind.f64.format.order x 9218868437227405311 == some .gt) = false := h2
  have g3 : (FloatKind.f64.format.order x 18442240474082181119 == some .lt) = false := h3
  have hal : x < 9223372036854775808 := by omega
  have hanan : isNan x = false := hnan
  have ham : x % 2 ^ 63 = x := by omega
  have hsg : (if x / 2 ^ 63 = 0 then ([] : Bs) else [45]) = [] := if_pos hs
  have htop : ((x : Int) / 4503599627370496 / 2048) = 0 := by omega
  have hm0 : bits .and .u64 (x : Int) (bits .xor .u64 IntKind.u64.max ((x : Int) / 4503599627370496 * 4503599627370496)) = ((x % 4503599627370496 : Nat) : Int) := by
    have hle := Nat.div_mul_le_self x 4503599627370496
    rw [show IntKind.u64.max = ((18446744073709551615 : Nat) : Int) from rfl, show (x : Int) / 4503599627370496 * 4503599627370496 = ((x / 4503599627370496 * 4503599627370496 : Nat) : Int) by omega, bits_xor_u64_nat _ _ (by decide) (by omega), bits_and_u64_nat _ _ hx (Nat.xor_lt_two_pow (n := 64) (by decide) (by omega)), mask52 hx]
  have hexv : bits .and .u64 ((x : Int) / 4503599627370496) 2047 = ((x / 4503599627370496 % 2048 : Nat) : Int) := by
    rw [show (2047 : Int) = ((2047 : Nat) : Int) from rfl, show (x : Int) / 4503599627370496 = ((x / 4503599627370496 : Nat) : Int) by omega, bits_and_u64_nat _ _ (by omega) (by decide), and2047]
  have HEX : Hid (¬ x / 4503599627370496 % 2048 = 0) := hex0
  have hexb : (((x / 4503599627370496 % 2048 : Nat) : Int) - 1075 == -1075) = false := by rw [beq_eq_false_iff_ne]; omega
  rw [ham] at hlt hfe
  have g4 : (FloatKind.f64.format.order x 4845873199050653696 == some .lt) = true := by rw [show FloatKind.f64.format.order x 4845873199050653696 = some .lt from hlt]; rfl
  have HLT : Hid (fOrd x two53 = some .lt ∧ ¬ fOrd x (floorN x) = some .eq) := ⟨hlt, hfe⟩
  clear hnan h2 h3 hT h1
  go_enter Tryz.func42, Tryz.ntmps42
  go_wp2_with fail
  rw [run_frombits]
  go_wp2_with fail
  refine (floor_any x).mono ?_
  rintro e' w1 ⟨⟨r, rfl, r1, r2⟩, f1⟩
  have hr := r1 hanan
  subst hr
  have T2 := Txt.fr HT.out f1
  have g5 : (FloatKind.f64.format.order x (floorN x) == some .eq) = false := by rw [beq_eq_false_iff_ne]; exact HLT.out.2
  have HF1 : Hid (Fr (fun j => j = bf) w w1) := (Fr.refl (fun j => j = bf) w).trans f1 (fun _ _ x => x.elim)
  clear r1 r2 f1
  obtain ⟨M, HM⟩ : ∃ M : Nat, Hid ((x % 4503599627370496 + 4503599627370496) = M) := ⟨(x % 4503599627370496 + 4503599627370496), Eq.refl (x % 4503599627370496 + 4503599627370496)⟩
  have hM1 : M < 9007199254740992 := by have := HM.out; omega
  have hM0 : M ≠ 0 := by have := HM.out; omega
  obtain ⟨M0, HM0⟩ : ∃ M0 : Nat, Hid (x % 4503599627370496 = M0) := ⟨x % 4503599627370496, Eq.refl (x % 4503599627370496)⟩
  obtain ⟨EX, HEXV⟩ : ∃ EX : Nat, Hid (x / 4503599627370496 % 2048 = EX) := ⟨x / 4503599627370496 % 2048, Eq.refl (x / 4503599627370496 % 2048)⟩
  have hor : bits .or .u64 (M0 : Int) 4503599627370496 = (M : Int) := by
    rw [← HM0.out, show (4503599627370496 : Int) = ((4503599627370496 : Nat) : Int) from rfl, bits_or_u64_nat _ _ (by omega) (by decide), or52 (by omega), HM.out]
  have hEXb : EX < 2048 := by have := HEXV.out; omega
  have hEX0 : EX ≠ 0 := by have := HEXV.out; omega
  rw [HM0.out] at hm0
  rw [HEXV.out] at hexv hexb
  go_wp2_with fail
  go_loopw [12, 13] (fun v12 v13 wr => ∃ (t : Nat), t < 53 ∧ v12 = .int .i64 t ∧ v13 = .int .u64 ((2 ^ t : Nat) : Int) ∧ wr = w1 ∧ Hid (M % 2 ^ t = 0 ∧ trail 53 M = t + trail (53 - t) (M / 2 ^ t))) (fun v12 _ _ => 53 - (intOf v12).toNat)
  case atStart => exact ⟨0, by omega, rfl, rfl, rfl, Nat.mod_one M, by simp⟩
  case round =>
    obtain ⟨t, ht, rfl, rfl, hw, HTR⟩ := hrel
    have hw2 : w1 = wr := hw.symm
    subst hw2
    clear hw
    have hpos : 0 < 2 ^ t := Nat.two_pow_pos t
    have hP2 : 2 ^ t ≤ 2 ^ 52 := Nat.pow_le_pow_right (by omega) (by omega)
    have hms : M % 2 ^ (t + 1) = M % 2 ^ t + 2 ^ t * (M / 2 ^ t % 2) := Nat.mod_pow_succ
    by_cases hb : M / 2 ^ t % 2 = 0
    · have hmz1 : M % 2 ^ (t + 1) = 0 := by rw [hms, HTR.out.1, hb, Nat.mul_zero]
      have ht2 : t + 1 < 53 := by
        refine Nat.lt_of_not_le fun hge => ?_
        have : t + 1 = 53 := by omega
        rw [this, Nat.mod_eq_of_lt hM1] at hmz1
        exact hM0 hmz1
      have htr := trail_step ht hb
      have HNX : Hid (M % 2 ^ (t + 1) = 0 ∧ trail 53 M = (t + 1) + trail (53 - (t + 1)) (M / 2 ^ (t + 1))) := ⟨hmz1, by have := HTR.out.2; omega⟩
      have hand : bits .and .u64 (M : Int) ((2 ^ t : Nat) : Int) = 0 := by rw [bits_and_u64_nat _ _ (by omega) (by omega), and_bit0 hb]; rfl
      obtain ⟨P, HP⟩ : ∃ P : Nat, Hid (2 ^ t = P) := ⟨2 ^ t, Eq.refl (2 ^ t)⟩
      rw [HP.out] at hpos hP2 hand ⊢
      clear hb htr hmz1 hms
      go_wp2_with fail
      exact ⟨⟨t + 1, ht2, by congr 1, by congr 1; rw [Nat.pow_succ, HP.out]; omega, trivial, HNX⟩, by simp only [intOf]; omega⟩
    · have hb1 : M / 2 ^ t % 2 = 1 := by omega
      have htr := trail_end ht hb1
      have htt : trail 53 M = t := by have := HTR.out.2; rw [htr] at this; exact this
      have HTT : Hid (trail 53 M = t) := htt
      have hand : (bits .and .u64 (M : Int) ((2 ^ t : Nat) : Int) == 0) = false := by
        rw [bits_and_u64_nat _ _ (by omega) (by omega), beq_eq_false_iff_ne]
        have := and_bit1 hb1
        omega
      obtain ⟨P, HP⟩ : ∃ P : Nat, Hid (2 ^ t = P) := ⟨2 ^ t, Eq.refl (2 ^ t)⟩
      rw [HP.out] at hpos hP2 hand ⊢
      clear hb htr hb1 hms
      have hUl := Nat.div_le_self M (2 ^ t)
      have hcast : ((M : Int) / 2 ^ t) = ((M / 2 ^ t : Nat) : Int) := by rw [Int.natCast_ediv]; simp
      obtain ⟨U, HU⟩ : ∃ U : Nat, Hid (M / 2 ^ t = U) := ⟨M / 2 ^ t, Eq.refl (M / 2 ^ t)⟩
      obtain ⟨E2, HE2⟩ : ∃ E2 : Int, Hid (((EX : Int) - 1075) + (t : Int) = E2) := ⟨((EX : Int) - 1075) + (t : Int), Eq.refl (((EX : Int) - 1075) + (t : Int))⟩
      have hE2 : -1074 ≤ E2 ∧ E2 ≤ 1100 := by have := HE2.out; omega
      rw [HU.out] at hcast hUl
      have hdU := decN_len 15 U (by omega)
      have hdE := decN_len 3 E2.natAbs (by omega)
      have hfm : fmtN x = ([] : Bs) ++ decN U ++ [112] ++ (if E2 < 0 then [45] else []) ++ decN E2.natAbs := by
        have h := fmtN_other HX.out HNN.out H2.out H3.out (fun h => HLT.out.2 (by have := h.2; rw [ham] at this; exact this)) (M := M) (t := t) (E := ((EX : Int) - 1075)) (by rw [if_neg HEX.out]; exact HM.out.symm) (by rw [if_neg HEX.out, HEXV.out]) HTT.out
        rw [hsg, HU.out, HE2.out] at h
        exact h
      have HFM : Hid (fmtN x = ([] : Bs) ++ decN U ++ [112] ++ (if E2 < 0 then [45] else []) ++ decN E2.natAbs) := hfm
      clear hfm
      have hE2e : ((EX : Int) - 1075) + (t : Int) = E2 := HE2.out
      go_wp2_with fail
      refine (lay_txt (S := ([] : Bs)) T2 (by omega) (by simp; omega)).mono ?_
      rintro e' w2 ⟨rfl, q1, q2⟩
      have hl1 : (([] : Bs) ++ decN U).length ≤ 17 := by simp; omega
      obtain ⟨S1, HS1⟩ : ∃ S1 : Bs, Hid (([] : Bs) ++ decN U = S1) := ⟨([] : Bs) ++ decN U, Eq.refl (([] : Bs) ++ decN U)⟩
      rw [HS1.out] at q1 hl1 ⊢
      rw [HS1.out] at HFM
      have T3 := q1.put (by omega) 112
      obtain ⟨⟨y0, hy0⟩, hy1, hy2⟩ := q1.at (j := S1.length) (by omega)
      have e112 : ((112 : UInt8).toNat : Int) = 112 := rfl
      rw [e112] at T3
      have HF2 : Hid (Fr (fun j => j = bf) w (w2.setCell ⟨bf, S1.length, none⟩ (.int .u8 112))) := (HF1.out.trans q2 (fun _ _ x => x)).setCell (p := ⟨bf, S1.length, none⟩) (.inl rfl) _
      by_cases hE0 : E2 < 0
      · rw [if_pos hE0] at HFM
        have hl3 : (S1 ++ [112]).length = S1.length + 1 := by simp
        have T4 := T3.put (by rw [hl3]; omega) 45
        obtain ⟨⟨z0, hz0⟩, hz1, hz2⟩ := T3.at (j := S1.length + 1) (by omega)
        have e45' : ((45 : UInt8).toNat : Int) = 45 := rfl
        rw [e45', hl3] at T4
        have HF3 : Hid (Fr (fun j => j = bf) w ((w2.setCell ⟨bf, S1.length, none⟩ (.int .u8 112)).setCell ⟨bf, S1.length + 1, none⟩ (.int .u8 45))) := HF2.out.setCell (p := ⟨bf, S1.length + 1, none⟩) (.inl rfl) _
        have hwr : IntKind.u64.wrap (-E2) = ((E2.natAbs : Nat) : Int) := by rw [IntKind.wrap_u64]; omega
        have hlen4 : (((S1 ++ [112] ++ [45]).length : Nat) : Int) = (S1.length : Int) + 1 + 1 := by simp; omega
        have HT4 : Hid (Txt ((w2.setCell ⟨bf, S1.length, none⟩ (.int .u8 112)).setCell ⟨bf, S1.length + 1, none⟩ (.int .u8 45)) bf (S1 ++ [112] ++ [45])) := T4
        have HLEN4 : Hid ((((S1 ++ [112] ++ [45]).length : Nat) : Int) = (S1.length : Int) + 1 + 1) := hlen4
        have hbnd : (S1 ++ [112] ++ [45] ++ decN E2.natAbs).length ≤ 24 := by simp; omega
        clear T3 T4 q1 q2 hl3 hlen4
        go_wp2_with fail
        have LAY := lay_txt (u := E2.natAbs) HT4.out (by omega) (by simp; omega)
        rw [HLEN4.out] at LAY
        refine LAY.mono ?_
        clear LAY
        rintro e' w3 ⟨rfl, v1, v2⟩
        have hconv := run_convert_bytes_back (P := Tryz.prog) w3 49 9 5 ⟨bf, 0, none⟩ 24 (S1 ++ [112] ++ [45] ++ decN E2.natAbs) (by kernel_rfl) (by kernel_rfl) (by kernel_rfl) v1.cells
        obtain ⟨SF, HSF⟩ : ∃ SF : Bs, Hid (S1 ++ [112] ++ [45] ++ decN E2.natAbs = SF) := ⟨(S1 ++ [112] ++ [45] ++ decN E2.natAbs : Bs), Eq.refl (S1 ++ [112] ++ [45] ++ decN E2.natAbs : Bs)⟩
        have FIN : Hid (Q (.returned (sv (S1 ++ [112] ++ [45] ++ decN E2.natAbs))) w3) := by
          rw [← HQ.out, HFM.out]
          exact ⟨rfl, ⟨_, v1⟩, HF3.out.trans v2 (fun _ _ x => x)⟩
        rw [HSF.out] at hconv hbnd FIN ⊢
        clear v1 v2
        go_wp2_with fail
        exact FIN.out
      · rw [if_neg hE0] at HFM
        have hl3 : (S1 ++ [112]).length = S1.length + 1 := by simp
        have hwr : IntKind.u64.wrap E2 = ((E2.natAbs : Nat) : Int) := by rw [IntKind.wrap_u64]; omega
        have hlen4 : (((S1 ++ [112]).length : Nat) : Int) = (S1.length : Int) + 1 := by simp
        have HT4 : Hid (Txt (w2.setCell ⟨bf, S1.length, none⟩ (.int .u8 112)) bf (S1 ++ [112])) := T3
        have HLEN4 : Hid ((((S1 ++ [112]).length : Nat) : Int) = (S1.length : Int) + 1) := hlen4
        have hbnd : (S1 ++ [112] ++ decN E2.natAbs).length ≤ 24 := by simp; omega
        clear T3 q1 q2 hl3 hlen4
        go_wp2_with fail
        have LAY := lay_txt (u := E2.natAbs) HT4.out (by omega) (by simp; omega)
        rw [HLEN4.out] at LAY
        refine LAY.mono ?_
        clear LAY
        rintro e' w3 ⟨rfl, v1, v2⟩
        have hconv := run_convert_bytes_back (P := Tryz.prog) w3 49 9 5 ⟨bf, 0, none⟩ 24 (S1 ++ [112] ++ decN E2.natAbs) (by kernel_rfl) (by kernel_rfl) (by kernel_rfl) v1.cells
        obtain ⟨SF, HSF⟩ : ∃ SF : Bs, Hid (S1 ++ [112] ++ decN E2.natAbs = SF) := ⟨(S1 ++ [112] ++ decN E2.natAbs : Bs), Eq.refl (S1 ++ [112] ++ decN E2.natAbs : Bs)⟩
        have FIN : Hid (Q (.returned (sv (S1 ++ [112] ++ decN E2.natAbs))) w3) := by
          rw [← HQ.out, HFM.out]
          exact ⟨by rw [List.append_nil], ⟨_, v1⟩, HF2.out.trans v2 (fun _ _ x => x)⟩
        rw [HSF.out] at hconv hbnd FIN ⊢
        clear v1 v2
        go_wp2_with fail
        exact FIN.out
theorem fmtO_neg0b {bn bf x : Nat} (hn : w.cell? ⟨bn, 0, none⟩ = some (.slice (some ⟨bf, 0, none⟩) 24 24)) (hnl : bn < w.heap.size) (hT : Txt w bf []) (hne : bn ≠ bf) (hx : x < 18446744073709551616) (h1 : fOrd x x = some .eq) (h2 : (fOrd x maxFin == some .gt) = false) (h3 : (fOrd x (maxFin + 2 ^ 63) == some .lt) = false) (hs : x / 2 ^ 63 ≠ 0) (hlt : ¬ fOrd (x % 2 ^ 63) two53 = some .lt) (hex0 : x / 4503599627370496 % 2048 = 0) (hmz : x % 4503599627370496 ≠ 0) :
    Calls Tryz.prog 42 #[.pointer (some ⟨bn, 0, none⟩), .int .u64 x] w (FmP w bn bf (fmtN x)) := by
  obtain ⟨Q, HQ⟩ : ∃ Q : Ending → World → Prop, Hid (FmP w bn bf (fmtN x) = Q) := ⟨_, rfl⟩
  rw [HQ.out]
  have HT : Hid (Txt w bf []) := hT
  have hnan : isNan x = false := by
    have e : isNan x = (fOrd x x != some .eq) := rfl
    rw [e, h1]; rfl
  have HNN : Hid (isNan x = false) := hnan
  have H2 : Hid ((fOrd x maxFin == some .gt) = false) := h2
  have H3 : Hid ((fOrd x (maxFin + 2 ^ 63) == some .lt) = false) := h3
  have HX : Hid (x < 18446744073709551616) := hx
  have HS : Hid (x / 2 ^ 63 ≠ 0) := hs
  have g1 : FloatKind.f64.format.order x x = some .eq := h1
  have g2 : (FloatKind.f64.format.order x 9218868437227405311 == some .gt) = false := h2
  have g3 : (FloatKind.f64.format.order x 18442240474082181119 == some .lt) = false := h3
  have hxr := xor63 hx hs
  obtain ⟨a, HA⟩ : ∃ a : Nat, Hid (x % 2 ^ 63 = a) := ⟨x % 2 ^ 63, Eq.refl (x % 2 ^ 63)⟩
  have hal : a < 9223372036854775808 := by have := HA.out; omega
  have hanan : isNan a = false := by rw [← HA.out, ← hxr]; exact nan_xor hx hnan
  have ham : x % 2 ^ 63 = a := HA.out
  rw [ham] at hxr
  have hsg : (if x / 2 ^ 63 = 0 then ([] : Bs) else [45]) = [45] := if_neg hs
  have htop : ((x : Int) / 4503599627370496 / 2048 != 0) = true := by
    have : x / 2 ^ 63 = 1 := by omega
    have h2 : (x : Int) / 4503599627370496 / 2048 = 1 := by omega
    rw [h2]; rfl
  obtain ⟨⟨x0, hx0⟩, hf0, hb0⟩ := hT.at (j := 0) (by omega)
  have T1 := hT.put (by decide) 45
  simp only [List.length_nil, List.nil_append] at T1
  have e45 : ((45 : UInt8).toNat : Int) = 45 := rfl
  rw [e45] at T1
  have hm0 : bits .and .u64 (x : Int) (bits .xor .u64 IntKind.u64.max ((x : Int) / 4503599627370496 * 4503599627370496)) = ((x % 4503599627370496 : Nat) : Int) := by
    have hle := Nat.div_mul_le_self x 4503599627370496
    rw [show IntKind.u64.max = ((18446744073709551615 : Nat) : Int) from rfl, show (x : Int) / 4503599627370496 * 4503599627370496 = ((x / 4503599627370496 * 4503599627370496 : Nat) : Int) by omega, bits_xor_u64_nat _ _ (by decide) (by omega), bits_and_u64_nat _ _ hx (Nat.xor_lt_two_pow (n := 64) (by decide) (by omega)), mask52 hx]
  have hexv : bits .and .u64 ((x : Int) / 4503599627370496) 2047 = ((x / 4503599627370496 % 2048 : Nat) : Int) := by
    rw [show (2047 : Int) = ((2047 : Nat) : Int) from rfl, show (x : Int) / 4503599627370496 = ((x / 4503599627370496 : Nat) : Int) by omega, bits_and_u64_nat _ _ (by omega) (by decide), and2047]
  have HEX : Hid (x / 4503599627370496 % 2048 = 0) := hex0
  rw [hex0] at hexv
  rw [ham] at hlt
  have g4 : (FloatKind.f64.format.order a 4845873199050653696 == some .lt) = false := by rw [beq_eq_false_iff_ne]; exact hlt
  have HLT : Hid (¬ fOrd a two53 = some .lt) := hlt
  clear hnan h2 h3 hT h1
  have T2 := T1
  obtain ⟨M, HM⟩ : ∃ M : Nat, Hid ((x % 4503599627370496) = M) := ⟨(x % 4503599627370496), Eq.refl (x % 4503599627370496)⟩
  have hM1 : M < 9007199254740992 := by have := HM.out; omega
  have hM0 : M ≠ 0 := by have := HM.out; omega
  rw [HM.out] at hm0
  go_enter Tryz.func42, Tryz.ntmps42
  go_wp2_with fail
  rw [run_frombits]
  go_wp2_with fail
  rw [run_negF, hxr]
  go_wp2_with fail
  go_loopw [12, 13] (fun v12 v13 wr => ∃ (t : Nat), t < 53 ∧ v12 = .int .i64 t ∧ v13 = .int .u64 ((2 ^ t : Nat) : Int) ∧ wr = (w.setCell ⟨bf, 0, none⟩ (.int .u8 45)) ∧ Hid (M % 2 ^ t = 0 ∧ trail 53 M = t + trail (53 - t) (M / 2 ^ t))) (fun v12 _ _ => 53 - (intOf v12).toNat)
  case atStart => exact ⟨0, by omega, rfl, rfl, rfl, Nat.mod_one M, by simp⟩
  case round =>
    obtain ⟨t, ht, rfl, rfl, hw, HTR⟩ := hrel
    have hw2 : (w.setCell ⟨bf, 0, none⟩ (.int .u8 45)) = wr := hw.symm
    subst hw2
    clear hw
    have hpos : 0 < 2 ^ t := Nat.two_pow_pos t
    have hP2 : 2 ^ t ≤ 2 ^ 52 := Nat.pow_le_pow_right (by omega) (by omega)
    have hms : M % 2 ^ (t + 1) = M % 2 ^ t + 2 ^ t * (M / 2 ^ t % 2) := Nat.mod_pow_succ
    by_cases hb : M / 2 ^ t % 2 = 0
    · have hmz1 : M % 2 ^ (t + 1) = 0 := by rw [hms, HTR.out.1, hb, Nat.mul_zero]
      have ht2 : t + 1 < 53 := by
        refine Nat.lt_of_not_le fun hge => ?_
        have : t + 1 = 53 := by omega
        rw [this, Nat.mod_eq_of_lt hM1] at hmz1
        exact hM0 hmz1
      have htr := trail_step ht hb
      have HNX : Hid (M % 2 ^ (t + 1) = 0 ∧ trail 53 M = (t + 1) + trail (53 - (t + 1)) (M / 2 ^ (t + 1))) := ⟨hmz1, by have := HTR.out.2; omega⟩
      have hand : bits .and .u64 (M : Int) ((2 ^ t : Nat) : Int) = 0 := by rw [bits_and_u64_nat _ _ (by omega) (by omega), and_bit0 hb]; rfl
      obtain ⟨P, HP⟩ : ∃ P : Nat, Hid (2 ^ t = P) := ⟨2 ^ t, Eq.refl (2 ^ t)⟩
      rw [HP.out] at hpos hP2 hand ⊢
      clear hb htr hmz1 hms
      go_wp2_with fail
      exact ⟨⟨t + 1, ht2, by congr 1, by congr 1; rw [Nat.pow_succ, HP.out]; omega, trivial, HNX⟩, by simp only [intOf]; omega⟩
    · have hb1 : M / 2 ^ t % 2 = 1 := by omega
      have htr := trail_end ht hb1
      have htt : trail 53 M = t := by have := HTR.out.2; rw [htr] at this; exact this
      have HTT : Hid (trail 53 M = t) := htt
      have hand : (bits .and .u64 (M : Int) ((2 ^ t : Nat) : Int) == 0) = false := by
        rw [bits_and_u64_nat _ _ (by omega) (by omega), beq_eq_false_iff_ne]
        have := and_bit1 hb1
        omega
      obtain ⟨P, HP⟩ : ∃ P : Nat, Hid (2 ^ t = P) := ⟨2 ^ t, Eq.refl (2 ^ t)⟩
      rw [HP.out] at hpos hP2 hand ⊢
      clear hb htr hb1 hms
      have hUl := Nat.div_le_self M (2 ^ t)
      have hcast : ((M : Int) / 2 ^ t) = ((M / 2 ^ t : Nat) : Int) := by rw [Int.natCast_ediv]; simp
      obtain ⟨U, HU⟩ : ∃ U : Nat, Hid (M / 2 ^ t = U) := ⟨M / 2 ^ t, Eq.refl (M / 2 ^ t)⟩
      obtain ⟨E2, HE2⟩ : ∃ E2 : Int, Hid ((-1074 : Int) + (t : Int) = E2) := ⟨(-1074 : Int) + (t : Int), Eq.refl ((-1074 : Int) + (t : Int))⟩
      have hE2 : -1074 ≤ E2 ∧ E2 ≤ 1100 := by have := HE2.out; omega
      rw [HU.out] at hcast hUl
      have hdU := decN_len 15 U (by omega)
      have hdE := decN_len 3 E2.natAbs (by omega)
      have hfm : fmtN x = ([45] : Bs) ++ decN U ++ [112] ++ (if E2 < 0 then [45] else []) ++ decN E2.natAbs := by
        have h := fmtN_other HX.out HNN.out H2.out H3.out (fun h => HLT.out (by have := h.1; rw [ham] at this; exact this)) (M := M) (t := t) (E := (-1074 : Int)) (by rw [if_pos HEX.out]; exact HM.out.symm) (by rw [if_pos HEX.out]) HTT.out
        rw [hsg, HU.out, HE2.out] at h
        exact h
      have HFM : Hid (fmtN x = ([45] : Bs) ++ decN U ++ [112] ++ (if E2 < 0 then [45] else []) ++ decN E2.natAbs) := hfm
      clear hfm
      have hE2e : (-1074 : Int) + (t : Int) = E2 := HE2.out
      go_wp2_with fail
      refine (lay_txt (S := ([45] : Bs)) T2 (by omega) (by simp; omega)).mono ?_
      rintro e' w2 ⟨rfl, q1, q2⟩
      have hl1 : (([45] : Bs) ++ decN U).length ≤ 17 := by simp; omega
      obtain ⟨S1, HS1⟩ : ∃ S1 : Bs, Hid (([45] : Bs) ++ decN U = S1) := ⟨([45] : Bs) ++ decN U, Eq.refl (([45] : Bs) ++ decN U)⟩
      rw [HS1.out] at q1 hl1 ⊢
      rw [HS1.out] at HFM
      have T3 := q1.put (by omega) 112
      obtain ⟨⟨y0, hy0⟩, hy1, hy2⟩ := q1.at (j := S1.length) (by omega)
      have e112 : ((112 : UInt8).toNat : Int) = 112 := rfl
      rw [e112] at T3
      have HF2 : Hid (Fr (fun j => j = bf) w (w2.setCell ⟨bf, S1.length, none⟩ (.int .u8 112))) := (((Fr.refl (fun j => j = bf) w).setCell (p := ⟨bf, 0, none⟩) (.inl rfl) _).trans q2 (fun _ _ x => x)).setCell (p := ⟨bf, S1.length, none⟩) (.inl rfl) _
      by_cases hE0 : E2 < 0
      · rw [if_pos hE0] at HFM
        have hl3 : (S1 ++ [112]).length = S1.length + 1 := by simp
        have T4 := T3.put (by rw [hl3]; omega) 45
        obtain ⟨⟨z0, hz0⟩, hz1, hz2⟩ := T3.at (j := S1.length + 1) (by omega)
        have e45' : ((45 : UInt8).toNat : Int) = 45 := rfl
        rw [e45', hl3] at T4
        have HF3 : Hid (Fr (fun j => j = bf) w ((w2.setCell ⟨bf, S1.length, none⟩ (.int .u8 112)).setCell ⟨bf, S1.length + 1, none⟩ (.int .u8 45))) := HF2.out.setCell (p := ⟨bf, S1.length + 1, none⟩) (.inl rfl) _
        have hwr : IntKind.u64.wrap (-E2) = ((E2.natAbs : Nat) : Int) := by rw [IntKind.wrap_u64]; omega
        have hlen4 : (((S1 ++ [112] ++ [45]).length : Nat) : Int) = (S1.length : Int) + 1 + 1 := by simp; omega
        have HT4 : Hid (Txt ((w2.setCell ⟨bf, S1.length, none⟩ (.int .u8 112)).setCell ⟨bf, S1.length + 1, none⟩ (.int .u8 45)) bf (S1 ++ [112] ++ [45])) := T4
        have HLEN4 : Hid ((((S1 ++ [112] ++ [45]).length : Nat) : Int) = (S1.length : Int) + 1 + 1) := hlen4
        have hbnd : (S1 ++ [112] ++ [45] ++ decN E2.natAbs).length ≤ 24 := by simp; omega
        clear T3 T4 q1 q2 hl3 hlen4
        go_wp2_with fail
        have LAY := lay_txt (u := E2.natAbs) HT4.out (by omega) (by simp; omega)
        rw [HLEN4.out] at LAY
        refine LAY.mono ?_
        clear LAY
        rintro e' w3 ⟨rfl, v1, v2⟩
        have hconv := run_convert_bytes_back (P := Tryz.prog) w3 49 9 5 ⟨bf, 0, none⟩ 24 (S1 ++ [112] ++ [45] ++ decN E2.natAbs) (by kernel_rfl) (by kernel_rfl) (by kernel_rfl) v1.cells
        obtain ⟨SF, HSF⟩ : ∃ SF : Bs, Hid (S1 ++ [112] ++ [45] ++ decN E2.natAbs = SF) := ⟨(S1 ++ [112] ++ [45] ++ decN E2.natAbs : Bs), Eq.refl (S1 ++ [112] ++ [45] ++ decN E2.natAbs : Bs)⟩
        have FIN : Hid (Q (.returned (sv (S1 ++ [112] ++ [45] ++ decN E2.natAbs))) w3) := by
          rw [← HQ.out, HFM.out]
          exact ⟨rfl, ⟨_, v1⟩, HF3.out.trans v2 (fun _ _ x => x)⟩
        rw [HSF.out] at hconv hbnd FIN ⊢
        clear v1 v2
        go_wp2_with fail
        exact FIN.out
      · exact absurd (show E2 < 0 by have := HE2.out; omega) hE0
theorem fmtO_neg0f {bn bf x : Nat} (hn : w.cell? ⟨bn, 0, none⟩ = some (.slice (some ⟨bf, 0, none⟩) 24 24)) (hnl : bn < w.heap.size) (hT : Txt w bf []) (hne : bn ≠ bf) (hx : x < 18446744073709551616) (h1 : fOrd x x = some .eq) (h2 : (fOrd x maxFin == some .gt) = false) (h3 : (fOrd x (maxFin + 2 ^ 63) == some .lt) = false) (hs : x / 2 ^ 63 ≠ 0) (hlt : fOrd (x % 2 ^ 63) two53 = some .lt) (hfe : ¬ fOrd (x % 2 ^ 63) (floorN (x % 2 ^ 63)) = some .eq) (hex0 : x / 4503599627370496 % 2048 = 0) (hmz : x % 4503599627370496 ≠ 0) :
    Calls Tryz.prog 42 #[.pointer (some ⟨bn, 0, none⟩), .int .u64 x] w (FmP w bn bf (fmtN x)) := by
  obtain ⟨Q, HQ⟩ : ∃ Q : Ending → World → Prop, Hid (FmP w bn bf (fmtN x) = Q) := ⟨_, rfl⟩
  rw [HQ.out]
  have HT : Hid (Txt w bf []) := hT
  have hnan : isNan x = false := by
    have e : isNan x = (fOrd x x != some .eq) := rfl
    rw [e, h1]; rfl
  have HNN : Hid (isNan x = false) := hnan
  have H2 : Hid ((fOrd x maxFin == some .gt) = false) := h2
  have H3 : Hid ((fOrd x (maxFin + 2 ^ 63) == some .lt) = false) := h3
  have HX : Hid (x < 18446744073709551616) := hx
  have HS : Hid (x / 2 ^ 63 ≠ 0) := hs
  have g1 : FloatKind.f64.format.order x x = some .eq := h1
  have g2 : (FloatKind.f64.format.order x 9218868437227405311 == some .gt) = false := h2
  have g3 : (FloatKind.f64.format.order x 18442240474082181119 == some .lt) = false := h3
  have hxr := xor63 hx hs
  obtain ⟨a, HA⟩ : ∃ a : Nat, Hid (x % 2 ^ 63 = a) := ⟨x % 2 ^ 63, Eq.refl (x % 2 ^ 63)⟩
  have hal : a < 9223372036854775808 := by have := HA.out; omega
  have hanan : isNan a = false := by rw [← HA.out, ← hxr]; exact nan_xor hx hnan
  have ham : x % 2 ^ 63 = a := HA.out
  rw [ham] at hxr
  have hsg : (if x / 2 ^ 63 = 0 then ([] : Bs) else [45]) = [45] := if_neg hs
  have htop : ((x : Int) / 4503599627370496 / 2048 != 0) = true := by
    have : x / 2 ^ 63 = 1 := by omega
    have h2 : (x : Int) / 4503599627370496 / 2048 = 1 := by omega
    rw [h2]; rfl
  obtain ⟨⟨x0, hx0⟩, hf0, hb0⟩ := hT.at (j := 0) (by omega)
  have T1 := hT.put (by decide) 45
  simp only [List.length_nil, List.nil_append] at T1
  have e45 : ((45 : UInt8).toNat : Int) = 45 := rfl
  rw [e45] at T1
  have hm0 : bits .and .u64 (x : Int) (bits .xor .u64 IntKind.u64.max ((x : Int) / 4503599627370496 * 4503599627370496)) = ((x % 4503599627370496 : Nat) : Int) := by
    have hle := Nat.div_mul_le_self x 4503599627370496
    rw [show IntKind.u64.max = ((18446744073709551615 : Nat) : Int) from rfl, show (x : Int) / 4503599627370496 * 4503599627370496 = ((x / 4503599627370496 * 4503599627370496 : Nat) : Int) by omega, bits_xor_u64_nat _ _ (by decide) (by omega), bits_and_u64_nat _ _ hx (Nat.xor_lt_two_pow (n := 64) (by decide) (by omega)), mask52 hx]
  have hexv : bits .and .u64 ((x : Int) / 4503599627370496) 2047 = ((x / 4503599627370496 % 2048 : Nat) : Int) := by
    rw [show (2047 : Int) = ((2047 : Nat) : Int) from rfl, show (x : Int) / 4503599627370496 = ((x / 4503599627370496 : Nat) : Int) by omega, bits_and_u64_nat _ _ (by omega) (by decide), and2047]
  have HEX : Hid (x / 4503599627370496 % 2048 = 0) := hex0
  rw [hex0] at hexv
  rw [ham] at hlt hfe
  have g4 : (FloatKind.f64.format.order a 4845873199050653696 == some .lt) = true := by rw [show FloatKind.f64.format.order a 4845873199050653696 = some .lt from hlt]; rfl
  have HLT : Hid (fOrd a two53 = some .lt ∧ ¬ fOrd a (floorN a) = some .eq) := ⟨hlt, hfe⟩
  clear hnan h2 h3 hT h1
  go_enter Tryz.func42, Tryz.ntmps42
  go_wp2_with fail
  rw [run_frombits]
  go_wp2_with fail
  rw [run_negF, hxr]
  go_wp2_with fail
  refine (floor_any a).mono ?_
  rintro e' w1 ⟨⟨r, rfl, r1, r2⟩, f1⟩
  have hr := r1 hanan
  subst hr
  have T2 := Txt.fr T1 f1
  have g5 : (FloatKind.f64.format.order a (floorN a) == some .eq) = false := by rw [beq_eq_false_iff_ne]; exact HLT.out.2
  have HF1 : Hid (Fr (fun j => j = bf) w w1) := ((Fr.refl (fun j => j = bf) w).setCell (p := ⟨bf, 0, none⟩) (.inl rfl) _).trans f1 (fun _ _ x => x.elim)
  clear r1 r2 f1
  obtain ⟨M, HM⟩ : ∃ M : Nat, Hid ((x % 4503599627370496) = M) := ⟨(x % 4503599627370496), Eq.refl (x % 4503599627370496)⟩
  have hM1 : M < 9007199254740992 := by have := HM.out; omega
  have hM0 : M ≠ 0 := by have := HM.out; omega
  rw [HM.out] at hm0
  go_wp2_with fail
  go_loopw [12, 13] (fun v12 v13 wr => ∃ (t : Nat), t < 53 ∧ v12 = .int .i64 t ∧ v13 = .int .u64 ((2 ^ t : Nat) : Int) ∧ wr = w1 ∧ Hid (M % 2 ^ t = 0 ∧ trail 53 M = t + trail (53 - t) (M / 2 ^ t))) (fun v12 _ _ => 53 - (intOf v12).toNat)
  case atStart => exact ⟨0, by omega, rfl, rfl, rfl, Nat.mod_one M, by simp⟩
  case round =>
    obtain ⟨t, ht, rfl, rfl, hw, HTR⟩ := hrel
    have hw2 : w1 = wr := hw.symm
    subst hw2
    clear hw
    have hpos : 0 < 2 ^ t := Nat.two_pow_pos t
    have hP2 : 2 ^ t ≤ 2 ^ 52 := Nat.pow_le_pow_right (by omega) (by omega)
    have hms : M % 2 ^ (t + 1) = M % 2 ^ t + 2 ^ t * (M / 2 ^ t % 2) := Nat.mod_pow_succ
    by_cases hb : M / 2 ^ t % 2 = 0
    · have hmz1 : M % 2 ^ (t + 1) = 0 := by rw [hms, HTR.out.1, hb, Nat.mul_zero]
      have ht2 : t + 1 < 53 := by
        refine Nat.lt_of_not_le fun hge => ?_
        have : t + 1 = 53 := by omega
        rw [this, Nat.mod_eq_of_lt hM1] at hmz1
        exact hM0 hmz1
      have htr := trail_step ht hb
      have HNX : Hid (M % 2 ^ (t + 1) = 0 ∧ trail 53 M = (t + 1) + trail (53 - (t + 1)) (M / 2 ^ (t + 1))) := ⟨hmz1, by have := HTR.out.2; omega⟩
      have hand : bits .and .u64 (M : Int) ((2 ^ t : Nat) : Int) = 0 := by rw [bits_and_u64_nat _ _ (by omega) (by omega), and_bit0 hb]; rfl
      obtain ⟨P, HP⟩ : ∃ P : Nat, Hid (2 ^ t = P) := ⟨2 ^ t, Eq.refl (2 ^ t)⟩
      rw [HP.out] at hpos hP2 hand ⊢
      clear hb htr hmz1 hms
      go_wp2_with fail
      exact ⟨⟨t + 1, ht2, by congr 1, by congr 1; rw [Nat.pow_succ, HP.out]; omega, trivial, HNX⟩, by simp only [intOf]; omega⟩
    · have hb1 : M / 2 ^ t % 2 = 1 := by omega
      have htr := trail_end ht hb1
      have htt : trail 53 M = t := by have := HTR.out.2; rw [htr] at this; exact this
      have HTT : Hid (trail 53 M = t) := htt
      have hand : (bits .and .u64 (M : Int) ((2 ^ t : Nat) : Int) == 0) = false := by
        rw [bits_and_u64_nat _ _ (by omega) (by omega), beq_eq_false_iff_ne]
        have := and_bit1 hb1
        omega
      obtain ⟨P, HP⟩ : ∃ P : Nat, Hid (2 ^ t = P) := ⟨2 ^ t, Eq.refl (2 ^ t)⟩
      rw [HP.out] at hpos hP2 hand ⊢
      clear hb htr hb1 hms
      have hUl := Nat.div_le_self M (2 ^ t)
      have hcast : ((M : Int) / 2 ^ t) = ((M / 2 ^ t : Nat) : Int) := by rw [Int.natCast_ediv]; simp
      obtain ⟨U, HU⟩ : ∃ U : Nat, Hid (M / 2 ^ t = U) := ⟨M / 2 ^ t, Eq.refl (M / 2 ^ t)⟩
      obtain ⟨E2, HE2⟩ : ∃ E2 : Int, Hid ((-1074 : Int) + (t : Int) = E2) := ⟨(-1074 : Int) + (t : Int), Eq.refl ((-1074 : Int) + (t : Int))⟩
      have hE2 : -1074 ≤ E2 ∧ E2 ≤ 1100 := by have := HE2.out; omega
      rw [HU.out] at hcast hUl
      have hdU := decN_len 15 U (by omega)
      have hdE := decN_len 3 E2.natAbs (by omega)
      have hfm : fmtN x = ([45] : Bs) ++ decN U ++ [112] ++ (if E2 < 0 then [45] else []) ++ decN E2.natAbs := by
        have h := fmtN_other HX.out HNN.out H2.out H3.out (fun h => HLT.out.2 (by have := h.2; rw [ham] at this; exact this)) (M := M) (t := t) (E := (-1074 : Int)) (by rw [if_pos HEX.out]; exact HM.out.symm) (by rw [if_pos HEX.out]) HTT.out
        rw [hsg, HU.out, HE2.out] at h
        exact h
      have HFM : Hid (fmtN x = ([45] : Bs) ++ decN U ++ [112] ++ (if E2 < 0 then [45] else []) ++ decN E2.natAbs) := hfm
      clear hfm
      have hE2e : (-1074 : Int) + (t : Int) = E2 := HE2.out
      go_wp2_with fail
      refine (lay_txt (S := ([45] : Bs)) T2 (by omega) (by simp; omega)).mono ?_
      rintro e' w2 ⟨rfl, q1, q2⟩
      have hl1 : (([45] : Bs) ++ decN U).length ≤ 17 := by simp; omega
      obtain ⟨S1, HS1⟩ : ∃ S1 : Bs, Hid (([45] : Bs) ++ decN U = S1) := ⟨([45] : Bs) ++ decN U, Eq.refl (([45] : Bs) ++ decN U)⟩
      rw [HS1.out] at q1 hl1 ⊢
      rw [HS1.out] at HFM
      have T3 := q1.put (by omega) 112
      obtain ⟨⟨y0, hy0⟩, hy1, hy2⟩ := q1.at (j := S1.length) (by omega)
      have e112 : ((112 : UInt8).toNat : Int) = 112 := rfl
      rw [e112] at T3
      have HF2 : Hid (Fr (fun j => j = bf) w (w2.setCell ⟨bf, S1.length, none⟩ (.int .u8 112))) := (HF1.out.trans q2 (fun _ _ x => x)).setCell (p := ⟨bf, S1.length, none⟩) (.inl rfl) _
      by_cases hE0 : E2 < 0
      · rw [if_pos hE0] at HFM
        have hl3 : (S1 ++ [112]).length = S1.length + 1 := by simp
        have T4 := T3.put (by rw [hl3]; omega) 45
        obtain ⟨⟨z0, hz0⟩, hz1, hz2⟩ := T3.at (j := S1.length + 1) (by omega)
        have e45' : ((45 : UInt8).toNat : Int) = 45 := rfl
        rw [e45', hl3] at T4
        have HF3 : Hid (Fr (fun j => j = bf) w ((w2.setCell ⟨bf, S1.length, none⟩ (.int .u8 112)).setCell ⟨bf, S1.length + 1, none⟩ (.int .u8 45))) := HF2.out.setCell (p := ⟨bf, S1.length + 1, none⟩) (.inl rfl) _
        have hwr : IntKind.u64.wrap (-E2) = ((E2.natAbs : Nat) : Int) := by rw [IntKind.wrap_u64]; omega
        have hlen4 : (((S1 ++ [112] ++ [45]).length : Nat) : Int) = (S1.length : Int) + 1 + 1 := by simp; omega
        have HT4 : Hid (Txt ((w2.setCell ⟨bf, S1.length, none⟩ (.int .u8 112)).setCell ⟨bf, S1.length + 1, none⟩ (.int .u8 45)) bf (S1 ++ [112] ++ [45])) := T4
        have HLEN4 : Hid ((((S1 ++ [112] ++ [45]).length : Nat) : Int) = (S1.length : Int) + 1 + 1) := hlen4
        have hbnd : (S1 ++ [112] ++ [45] ++ decN E2.natAbs).length ≤ 24 := by simp; omega
        clear T3 T4 q1 q2 hl3 hlen4
        go_wp2_with fail
        have LAY := lay_txt (u := E2.natAbs) HT4.out (by omega) (by simp; omega)
        rw [HLEN4.out] at LAY
        refine LAY.mono ?_
        clear LAY
        rintro e' w3 ⟨rfl, v1, v2⟩
        have hconv := run_convert_bytes_back (P := Tryz.prog) w3 49 9 5 ⟨bf, 0, none⟩ 24 (S1 ++ [112] ++ [45] ++ decN E2.natAbs) (by kernel_rfl) (by kernel_rfl) (by kernel_rfl) v1.cells
        obtain ⟨SF, HSF⟩ : ∃ SF : Bs, Hid (S1 ++ [112] ++ [45] ++ decN E2.natAbs = SF) := ⟨(S1 ++ [112] ++ [45] ++ decN E2.natAbs : Bs), Eq.refl (S1 ++ [112] ++ [45] ++ decN E2.natAbs : Bs)⟩
        have FIN : Hid (Q (.returned (sv (S1 ++ [112] ++ [45] ++ decN E2.natAbs))) w3) := by
          rw [← HQ.out, HFM.out]
          exact ⟨rfl, ⟨_, v1⟩, HF3.out.trans v2 (fun _ _ x => x)⟩
        rw [HSF.out] at hconv hbnd FIN ⊢
        clear v1 v2
        go_wp2_with fail
        exact FIN.out
      · exact absurd (show E2 < 0 by have := HE2.out; omega) hE0
theorem fmtO_neg1b {bn bf x : Nat} (hn : w.cell? ⟨bn, 0, none⟩ = some (.slice (some ⟨bf, 0, none⟩) 24 24)) (hnl : bn < w.heap.size) (hT : Txt w bf []) (hne : bn ≠ bf) (hx : x < 18446744073709551616) (h1 : fOrd x x = some .eq) (h2 : (fOrd x maxFin == some .gt) = false) (h3 : (fOrd x (maxFin + 2 ^ 63) == some .lt) = false) (hs : x / 2 ^ 63 ≠ 0) (hlt : ¬ fOrd (x % 2 ^ 63) two53 = some .lt) (hex0 : x / 4503599627370496 % 2048 ≠ 0) :
    Calls Tryz.prog 42 #[.pointer (some ⟨bn, 0, none⟩), .int .u64 x] w (FmP w bn bf (fmtN x)) := by
  obtain ⟨Q, HQ⟩ : ∃ Q : Ending → World → Prop, Hid (FmP w bn bf (fmtN x) = Q) := ⟨_, rfl⟩
  rw [HQ.out]
  have HT : Hid (Txt w bf []) := hT
  have hnan : isNan x = false := by
    have e : isNan x = (fOrd x x != some .eq) := rfl
    rw [e, h1]; rfl
  have HNN : Hid (isNan x = false) := hnan
  have H2 : Hid ((fOrd x maxFin == some .gt) = false) := h2
  have H3 : Hid ((fOrd x (maxFin + 2 ^ 63) == some .lt) = false) := h3
  have HX : Hid (x < 18446744073709551616) := hx
  have HS : Hid (x / 2 ^ 63 ≠ 0) := hs
  have g1 : FloatKind.f64.format.order x x = some .eq := h1
  have g2 : (FloatKind.f64.format.order x 9218868437227405311 == some .gt) = false := h2
  have g3 : (FloatKind.f64.format.order x 18442240474082181119 == some .lt) = false := h3
  have hxr := xor63 hx hs
  obtain ⟨a, HA⟩ : ∃ a : Nat, Hid (x % 2 ^ 63 = a) := ⟨x % 2 ^ 63, Eq.refl (x % 2 ^ 63)⟩
  have hal : a < 9223372036854775808 := by have := HA.out; omega
  have hanan : isNan a = false := by rw [← HA.out, ← hxr]; exact nan_xor hx hnan
  have ham : x % 2 ^ 63 = a := HA.out
  rw [ham] at hxr
  have hsg : (if x / 2 ^ 63 = 0 then ([] : Bs) else [45]) = [45] := if_neg hs
  have htop : ((x : Int) / 4503599627370496 / 2048 != 0) = true := by
    have : x / 2 ^ 63 = 1 := by omega
    have h2 : (x : Int) / 4503599627370496 / 2048 = 1 := by omega
    rw [h2]; rfl
  obtain ⟨⟨x0, hx0⟩, hf0, hb0⟩ := hT.at (j := 0) (by omega)
  have T1 := hT.put (by decide) 45
  simp only [List.length_nil, List.nil_append] at T1
  have e45 : ((45 : UInt8).toNat : Int) = 45 := rfl
  rw [e45] at T1
  have hm0 : bits .and .u64 (x : Int) (bits .xor .u64 IntKind.u64.max ((x : Int) / 4503599627370496 * 4503599627370496)) = ((x % 4503599627370496 : Nat) : Int) := by
    have hle := Nat.div_mul_le_self x 4503599627370496
    rw [show IntKind.u64.max = ((18446744073709551615 : Nat) : Int) from rfl, show (x : Int) / 4503599627370496 * 4503599627370496 = ((x / 4503599627370496 * 4503599627370496 : Nat) : Int) by omega, bits_xor_u64_nat _ _ (by decide) (by omega), bits_and_u64_nat _ _ hx (Nat.xor_lt_two_pow (n := 64) (by decide) (by omega)), mask52 hx]
  have hexv : bits .and .u64 ((x : Int) / 4503599627370496) 2047 = ((x / 4503599627370496 % 2048 : Nat) : Int) := by
    rw [show (2047 : Int) = ((2047 : Nat) : Int) from rfl, show (x : Int) / 4503599627370496 = ((x / 4503599627370496 : Nat) : Int) by omega, bits_and_u64_nat _ _ (by omega) (by decide), and2047]
  have HEX : Hid (¬ x / 4503599627370496 % 2048 = 0) := hex0
  have hexb : (((x / 4503599627370496 % 2048 : Nat) : Int) - 1075 == -1075) = false := by rw [beq_eq_false_iff_ne]; omega
  rw [ham] at hlt
  have g4 : (FloatKind.f64.format.order a 4845873199050653696 == some .lt) = false := by rw [beq_eq_false_iff_ne]; exact hlt
  have HLT : Hid (¬ fOrd a two53 = some .lt) := hlt
  clear hnan h2 h3 hT h1
  have T2 := T1
  obtain ⟨M, HM⟩ : ∃ M : Nat, Hid ((x % 4503599627370496 + 4503599627370496) = M) := ⟨(x % 4503599627370496 + 4503599627370496), Eq.refl (x % 4503599627370496 + 4503599627370496)⟩
  have hM1 : M < 9007199254740992 := by have := HM.out; omega
  have hM0 : M ≠ 0 := by have := HM.out; omega
  obtain ⟨M0, HM0⟩ : ∃ M0 : Nat, Hid (x % 4503599627370496 = M0) := ⟨x % 4503599627370496, Eq.refl (x % 4503599627370496)⟩
  obtain ⟨EX, HEXV⟩ : ∃ EX : Nat, Hid (x / 4503599627370496 % 2048 = EX) := ⟨x / 4503599627370496 % 2048, Eq.refl (x / 4503599627370496 % 2048)⟩
  have hor : bits .or .u64 (M0 : Int) 4503599627370496 = (M : Int) := by
    rw [← HM0.out, show (4503599627370496 : Int) = ((4503599627370496 : Nat) : Int) from rfl, bits_or_u64_nat _ _ (by omega) (by decide), or52 (by omega), HM.out]
  have hEXb : EX < 2048 := by have := HEXV.out; omega
  have hEX0 : EX ≠ 0 := by have := HEXV.out; omega
  rw [HM0.out] at hm0
  rw [HEXV.out] at hexv hexb
  go_enter Tryz.func42, Tryz.ntmps42
  go_wp2_with fail
  rw [run_frombits]
  go_wp2_with fail
  rw [run_negF, hxr]
  go_wp2_with fail
  go_loopw [12, 13] (fun v12 v13 wr => ∃ (t : Nat), t < 53 ∧ v12 = .int .i64 t ∧ v13 = .int .u64 ((2 ^ t : Nat) : Int) ∧ wr = (w.setCell ⟨bf, 0, none⟩ (.int .u8 45)) ∧ Hid (M % 2 ^ t = 0 ∧ trail 53 M = t + trail (53 - t) (M / 2 ^ t))) (fun v12 _ _ => 53 - (intOf v12).toNat)
  case atStart => exact ⟨0, by omega, rfl, rfl, rfl, Nat.mod_one M, by simp⟩
  case round =>
    obtain ⟨t, ht, rfl, rfl, hw, HTR⟩ := hrel
    have hw2 : (w.setCell ⟨bf, 0, none⟩ (.int .u8 45)) = wr := hw.symm
    subst hw2
    clear hw
    have hpos : 0 < 2 ^ t := Nat.two_pow_pos t
    have hP2 : 2 ^ t ≤ 2 ^ 52 := Nat.pow_le_pow_right (by omega) (by omega)
    have hms : M % 2 ^ (t + 1) = M % 2 ^ t + 2 ^ t * (M / 2 ^ t % 2) := Nat.mod_pow_succ
    by_cases hb : M / 2 ^ t % 2 = 0
    · have hmz1 : M % 2 ^ (t + 1) = 0 := by rw [hms, HTR.out.1, hb, Nat.mul_zero]
      have ht2 : t + 1 < 53 := by
        refine Nat.lt_of_not_le fun hge => ?_
        have : t + 1 = 53 := by omega
        rw [this, Nat.mod_eq_of_lt hM1] at hmz1
        exact hM0 hmz1
      have htr := trail_step ht hb
      have HNX : Hid (M % 2 ^ (t + 1) = 0 ∧ trail 53 M = (t + 1) + trail (53 - (t + 1)) (M / 2 ^ (t + 1))) := ⟨hmz1, by have := HTR.out.2; omega⟩
      have hand : bits .and .u64 (M : Int) ((2 ^ t : Nat) : Int) = 0 := by rw [bits_and_u64_nat _ _ (by omega) (by omega), and_bit0 hb]; rfl
      obtain ⟨P, HP⟩ : ∃ P : Nat, Hid (2 ^ t = P) := ⟨2 ^ t, Eq.refl (2 ^ t)⟩
      rw [HP.out] at hpos hP2 hand ⊢
      clear hb htr hmz1 hms
      go_wp2_with fail
      exact ⟨⟨t + 1, ht2, by congr 1, by congr 1; rw [Nat.pow_succ, HP.out]; omega, trivial, HNX⟩, by simp only [intOf]; omega⟩
    · have hb1 : M / 2 ^ t % 2 = 1 := by omega
      have htr := trail_end ht hb1
      have htt : trail 53 M = t := by have := HTR.out.2; rw [htr] at this; exact this
      have HTT : Hid (trail 53 M = t) := htt
      have hand : (bits .and .u64 (M : Int) ((2 ^ t : Nat) : Int) == 0) = false := by
        rw [bits_and_u64_nat _ _ (by omega) (by omega), beq_eq_false_iff_ne]
        have := and_bit1 hb1
        omega
      obtain ⟨P, HP⟩ : ∃ P : Nat, Hid (2 ^ t = P) := ⟨2 ^ t, Eq.refl (2 ^ t)⟩
      rw [HP.out] at hpos hP2 hand ⊢
      clear hb htr hb1 hms
      have hUl := Nat.div_le_self M (2 ^ t)
      have hcast : ((M : Int) / 2 ^ t) = ((M / 2 ^ t : Nat) : Int) := by rw [Int.natCast_ediv]; simp
      obtain ⟨U, HU⟩ : ∃ U : Nat, Hid (M / 2 ^ t = U) := ⟨M / 2 ^ t, Eq.refl (M / 2 ^ t)⟩
      obtain ⟨E2, HE2⟩ : ∃ E2 : Int, Hid (((EX : Int) - 1075) + (t : Int) = E2) := ⟨((EX : Int) - 1075) + (t : Int), Eq.refl (((EX : Int) - 1075) + (t : Int))⟩
      have hE2 : -1074 ≤ E2 ∧ E2 ≤ 1100 := by have := HE2.out; omega
      rw [HU.out] at hcast hUl
      have hdU := decN_len 15 U (by omega)
      have hdE := decN_len 3 E2.natAbs (by omega)
      have hfm : fmtN x = ([45] : Bs) ++ decN U ++ [112] ++ (if E2 < 0 then [45] else []) ++ decN E2.natAbs := by
        have h := fmtN_other HX.out HNN.out H2.out H3.out (fun h => HLT.out (by have := h.1; rw [ham] at this; exact this)) (M := M) (t := t) (E := ((EX : Int) - 1075)) (by rw [if_neg HEX.out]; exact HM.out.symm) (by rw [if_neg HEX.out, HEXV.out]) HTT.out
        rw [hsg, HU.out, HE2.out] at h
        exact h
      have HFM : Hid (fmtN x = ([45] : Bs) ++ decN U ++ [112] ++ (if E2 < 0 then [45] else []) ++ decN E2.natAbs) := hfm
      clear hfm
      have hE2e : ((EX : Int) - 1075) + (t : Int) = E2 := HE2.out
      go_wp2_with fail
      refine (lay_txt (S := ([45] : Bs)) T2 (by omega) (by simp; omega)).mono ?_
      rintro e' w2 ⟨rfl, q1, q2⟩
      have hl1 : (([45] : Bs) ++ decN U).length ≤ 17 := by simp; omega
      obtain ⟨S1, HS1⟩ : ∃ S1 : Bs, Hid (([45] : Bs) ++ decN U = S1) := ⟨([45] : Bs) ++ decN U, Eq.refl (([45] : Bs) ++ decN U)⟩
      rw [HS1.out] at q1 hl1 ⊢
      rw [HS1.out] at HFM
      have T3 := q1.put (by omega) 112
      obtain ⟨⟨y0, hy0⟩, hy1, hy2⟩ := q1.at (j := S1.length) (by omega)
      have e112 : ((112 : UInt8).toNat : Int) = 112 := rfl
      rw [e112] at T3
      have HF2 : Hid (Fr (fun j => j = bf) w (w2.setCell ⟨bf, S1.length, none⟩ (.int .u8 112))) := (((Fr.refl (fun j => j = bf) w).setCell (p := ⟨bf, 0, none⟩) (.inl rfl) _).trans q2 (fun _ _ x => x)).setCell (p := ⟨bf, S1.length, none⟩) (.inl rfl) _
      by_cases hE0 : E2 < 0
      · rw [if_pos hE0] at HFM
        have hl3 : (S1 ++ [112]).length = S1.length + 1 := by simp
        have T4 := T3.put (by rw [hl3]; omega) 45
        obtain ⟨⟨z0, hz0⟩, hz1, hz2⟩ := T3.at (j := S1.length + 1) (by omega)
        have e45' : ((45 : UInt8).toNat : Int) = 45 := rfl
        rw [e45', hl3] at T4
        have HF3 : Hid (Fr (fun j => j = bf) w ((w2.setCell ⟨bf, S1.length, none⟩ (.int .u8 112)).setCell ⟨bf, S1.length + 1, none⟩ (.int .u8 45))) := HF2.out.setCell (p := ⟨bf, S1.length + 1, none⟩) (.inl rfl) _
        have hwr : IntKind.u64.wrap (-E2) = ((E2.natAbs : Nat) : Int) := by rw [IntKind.wrap_u64]; omega
        have hlen4 : (((S1 ++ [112] ++ [45]).length : Nat) : Int) = (S1.length : Int) + 1 + 1 := by simp; omega
        have HT4 : Hid (Txt ((w2.setCell ⟨bf, S1.length, none⟩ (.int .u8 112)).setCell ⟨bf, S1.length + 1, none⟩ (.int .u8 45)) bf (S1 ++ [112] ++ [45])) := T4
        have HLEN4 : Hid ((((S1 ++ [112] ++ [45]).length : Nat) : Int) = (S1.length : Int) + 1 + 1) := hlen4
        have hbnd : (S1 ++ [112] ++ [45] ++ decN E2.natAbs).length ≤ 24 := by simp; omega
        clear T3 T4 q1 q2 hl3 hlen4
        go_wp2_with fail
        have LAY := lay_txt (u := E2.natAbs) HT4.out (by omega) (by simp; omega)
        rw [HLEN4.out] at LAY
        refine LAY.mono ?_
        clear LAY
        rintro e' w3 ⟨rfl, v1, v2⟩
        have hconv := run_convert_bytes_back (P := Tryz.prog) w3 49 9 5 ⟨bf, 0, none⟩ 24 (S1 ++ [112] ++ [45] ++ decN E2.natAbs) (by kernel_rfl) (by kernel_rfl) (by kernel_rfl) v1.cells
        obtain ⟨SF, HSF⟩ : ∃ SF : Bs, Hid (S1 ++ [112] ++ [45] ++ decN E2.natAbs = SF) := ⟨(S1 ++ [112] ++ [45] ++ decN E2.natAbs : Bs), Eq.refl (S1 ++ [112] ++ [45] ++ decN E2.natAbs : Bs)⟩
        have FIN : Hid (Q (.returned (sv (S1 ++ [112] ++ [45] ++ decN E2.natAbs))) w3) := by
          rw [← HQ.out, HFM.out]
          exact ⟨rfl, ⟨_, v1⟩, HF3.out.trans v2 (fun _ _ x => x)⟩
        rw [HSF.out] at hconv hbnd FIN ⊢
        clear v1 v2
        go_wp2_with fail
        exact FIN.out
      · rw [if_neg hE0] at HFM
        have hl3 : (S1 ++ [112]).length = S1.length + 1 := by simp
        have hwr : IntKind.u64.wrap E2 = ((E2.natAbs : Nat) : Int) := by rw [IntKind.wrap_u64]; omega
        have hlen4 : (((S1 ++ [112]).length : Nat) : Int) = (S1.length : Int) + 1 := by simp
        have HT4 : Hid (Txt (w2.setCell ⟨bf, S1.length, none⟩ (.int .u8 112)) bf (S1 ++ [112])) := T3
        have HLEN4 : Hid ((((S1 ++ [112]).length : Nat) : Int) = (S1.length : Int) + 1) := hlen4
        have hbnd : (S1 ++ [112] ++ decN E2.natAbs).length ≤ 24 := by simp; omega
        clear T3 q1 q2 hl3 hlen4
        go_wp2_with fail
        have LAY := lay_txt (u := E2.natAbs) HT4.out (by omega) (by simp; omega)
        rw [HLEN4.out] at LAY
        refine LAY.mono ?_
        clear LAY
        rintro e' w3 ⟨rfl, v1, v2⟩
        have hconv := run_convert_bytes_back (P := Tryz.prog) w3 49 9 5 ⟨bf, 0, none⟩ 24 (S1 ++ [112] ++ decN E2.natAbs) (by kernel_rfl) (by kernel_rfl) (by kernel_rfl) v1.cells
        obtain ⟨SF, HSF⟩ : ∃ SF : Bs, Hid (S1 ++ [112] ++ decN E2.natAbs = SF) := ⟨(S1 ++ [112] ++ decN E2.natAbs : Bs), Eq.refl (S1 ++ [112] ++ decN E2.natAbs : Bs)⟩
        have FIN : Hid (Q (.returned (sv (S1 ++ [112] ++ decN E2.natAbs))) w3) := by
          rw [← HQ.out, HFM.out]
          exact ⟨by rw [List.append_nil], ⟨_, v1⟩, HF2.out.trans v2 (fun _ _ x => x)⟩
        rw [HSF.out] at hconv hbnd FIN ⊢
        clear v1 v2
        go_wp2_with fail
        exact FIN.out
theorem fmtO_neg1f {bn bf x : Nat} (hn : w.cell? ⟨bn, 0, none⟩ = some (.slice (some ⟨bf, 0, none⟩) 24 24)) (hnl : bn < w.heap.size) (hT : Txt w bf []) (hne : bn ≠ bf) (hx : x < 18446744073709551616) (h1 : fOrd x x = some .eq) (h2 : (fOrd x maxFin == some .gt) = false) (h3 : (fOrd x (maxFin + 2 ^ 63) == some .lt) = false) (hs : x / 2 ^ 63 ≠ 0) (hlt : fOrd (x % 2 ^ 63) two53 = some .lt) (hfe : ¬ fOrd (x % 2 ^ 63) (floorN (x % 2 ^ 63)) = some .eq) (hex0 : x / 4503599627370496 % 2048 ≠ 0) :
    Calls Tryz.prog 42 #[.pointer (some ⟨bn, 0, none⟩), .int .u64 x] w (FmP w bn bf (fmtN x)) := by
  obtain ⟨Q, HQ⟩ : ∃ Q : Ending → World → Prop, Hid (FmP w bn bf (fmtN x) = Q) := ⟨_, rfl⟩
  rw [HQ.out]
  have HT : Hid (Txt w bf []) := hT
  have hnan : isNan x = false := by
    have e : isNan x = (fOrd x x != some .eq) := rfl
    rw [e, h1]; rfl
  have HNN : Hid (isNan x = false) := hnan
  have H2 : Hid ((fOrd x maxFin == some .gt) = false) := h2
  have H3 : Hid ((fOrd x (maxFin + 2 ^ 63) == some .lt) = false) := h3
  have HX : Hid (x < 18446744073709551616) := hx
  have HS : Hid (x / 2 ^ 63 ≠ 0) := hs
  have g1 : FloatKind.f64.format.order x x = some .eq := h1
  have g2 : (FloatKind.f64.format.order x 9218868437227405311 == some .gt) = false := h2
  have g3 : (FloatKind.f64.format.order x 18442240474082181119 == some .lt) = false := h3
  have hxr := xor63 hx hs
  obtain ⟨a, HA⟩ : ∃ a : Nat, Hid (x % 2 ^ 63 = a) := ⟨x % 2 ^ 63, Eq.refl (x % 2 ^ 63)⟩
  have hal : a < 9223372036854775808 := by have := HA.out; omega
  have hanan : isNan a = false := by rw [← HA.out, ← hxr]; exact nan_xor hx hnan
  have ham : x % 2 ^ 63 = a := HA.out
  rw [ham] at hxr
  have hsg : (if x / 2 ^ 63 = 0 then ([] : Bs) else [45]) = [45] := if_neg hs
  have htop : ((x : Int) / 4503599627370496 / 2048 != 0) = true := by
    have : x / 2 ^ 63 = 1 := by omega
    have h2 : (x : Int) / 4503599627370496 / 2048 = 1 := by omega
    rw [h2]; rfl
  obtain ⟨⟨x0, hx0⟩, hf0, hb0⟩ := hT.at (j := 0) (by omega)
  have T1 := hT.put (by decide) 45
  simp only [List.length_nil, List.nil_append] at T1
  have e45 : ((45 : UInt8).toNat : Int) = 45 := rfl
  rw [e45] at T1
  have hm0 : bits .and .u64 (x : Int) (bits .xor .u64 IntKind.u64.max ((x : Int) / 4503599627370496 * 4503599627370496)) = ((x % 4503599627370496 : Nat) : Int) := by
    have hle := Nat.div_mul_le_self x 4503599627370496
    rw [show IntKind.u64.max = ((18446744073709551615 : Nat) : Int) from rfl, show (x : Int) / 4503599627370496 * 4503599627370496 = ((x / 4503599627370496 * 4503599627370496 : Nat) : Int) by omega, bits_xor_u64_nat _ _ (by decide) (by omega), bits_and_u64_nat _ _ hx (Nat.xor_lt_two_pow (n := 64) (by decide) (by omega)), mask52 hx]
  have hexv : bits .and .u64 ((x : Int) / 4503599627370496) 2047 = ((x / 4503599627370496 % 2048 : Nat) : Int) := by
    rw [show (2047 : Int) = ((2047 : Nat) : Int) from rfl, show (x : Int) / 4503599627370496 = ((x / 4503599627370496 : Nat) : Int) by omega, bits_and_u64_nat _ _ (by omega) (by decide), and2047]
  have HEX : Hid (¬ x / 4503599627370496 % 2048 = 0) := hex0
  have hexb : (((x / 4503599627370496 % 2048 : Nat) : Int) - 1075 == -1075) = false := by rw [beq_eq_false_iff_ne]; omega
  rw [ham] at hlt hfe
  have g4 : (FloatKind.f64.format.order a 4845873199050653696 == some .lt) = true := by rw [show FloatKind.f64.format.order a 4845873199050653696 = some .lt from hlt]; rfl
  have HLT : Hid (fOrd a two53 = some .lt ∧ ¬ fOrd a (floorN a) = some .eq) := ⟨hlt, hfe⟩
  clear hnan h2 h3 hT h1
  go_enter Tryz.func42, Tryz.ntmps42
  go_wp2_with fail
  rw [run_frombits]
  go_wp2_with fail
  rw [run_negF, hxr]
  go_wp2_with fail
  refine (floor_any a).mono ?_
  rintro e' w1 ⟨⟨r, rfl, r1, r2⟩, f1⟩
  have hr := r1 hanan
  subst hr
  have T2 := Txt.fr T1 f1
  have g5 : (FloatKind.f64.format.order a (floorN a) == some .eq) = false := by rw [beq_eq_false_iff_ne]; exact HLT.out.2
  have HF1 : Hid (Fr (fun j => j = bf) w w1) := ((Fr.refl (fun j => j = bf) w).setCell (p := ⟨bf, 0, none⟩) (.inl rfl) _).trans f1 (fun _ _ x => x.elim)
  clear r1 r2 f1
  obtain ⟨M, HM⟩ : ∃ M : Nat, Hid ((x % 4503599627370496 + 4503599627370496) = M) := ⟨(x % 4503599627370496 + 4503599627370496), Eq.refl (x % 4503599627370496 + 4503599627370496)⟩
  have hM1 : M < 9007199254740992 := by have := HM.out; omega
  have hM0 : M ≠ 0 := by have := HM.out; omega
  obtain ⟨M0, HM0⟩ : ∃ M0 : Nat, Hid (x % 4503599627370496 = M0) := ⟨x % 4503599627370496, Eq.refl (x % 4503599627370496)⟩
  obtain ⟨EX, HEXV⟩ : ∃ EX : Nat, Hid (x / 4503599627370496 % 2048 = EX) := ⟨x / 4503599627370496 % 2048, Eq.refl (x / 4503599627370496 % 2048)⟩
  have hor : bits .or .u64 (M0 : Int) 4503599627370496 = (M : Int) := by
    rw [← HM0.out, show (4503599627370496 : Int) = ((4503599627370496 : Nat) : Int) from rfl, bits_or_u64_nat _ _ (by omega) (by decide), or52 (by omega), HM.out]
  have hEXb : EX < 2048 := by have := HEXV.out; omega
  have hEX0 : EX ≠ 0 := by have := HEXV.out; omega
  rw [HM0.out] at hm0
  rw [HEXV.out] at hexv hexb
  go_wp2_with fail
  go_loopw [12, 13] (fun v12 v13 wr => ∃ (t : Nat), t < 53 ∧ v12 = .int .i64 t ∧ v13 = .int .u64 ((2 ^ t : Nat) : Int) ∧ wr = w1 ∧ Hid (M % 2 ^ t = 0 ∧ trail 53 M = t + trail (53 - t) (M / 2 ^ t))) (fun v12 _ _ => 53 - (intOf v12).toNat)
  case atStart => exact ⟨0, by omega, rfl, rfl, rfl, Nat.mod_one M, by simp⟩
  case round =>
    obtain ⟨t, ht, rfl, rfl, hw, HTR⟩ := hrel
    have hw2 : w1 = wr := hw.symm
    subst hw2
    clear hw
    have hpos : 0 < 2 ^ t := Nat.two_pow_pos t
    have hP2 : 2 ^ t ≤ 2 ^ 52 := Nat.pow_le_pow_right (by omega) (by omega)
    have hms : M % 2 ^ (t + 1) = M % 2 ^ t + 2 ^ t * (M / 2 ^ t % 2) := Nat.mod_pow_succ
    by_cases hb : M / 2 ^ t % 2 = 0
    · have hmz1 : M % 2 ^ (t + 1) = 0 := by rw [hms, HTR.out.1, hb, Nat.mul_zero]
      have ht2 : t + 1 < 53 := by
        refine Nat.lt_of_not_le fun hge => ?_
        have : t + 1 = 53 := by omega
        rw [this, Nat.mod_eq_of_lt hM1] at hmz1
        exact hM0 hmz1
      have htr := trail_step ht hb
      have HNX : Hid (M % 2 ^ (t + 1) = 0 ∧ trail 53 M = (t + 1) + trail (53 - (t + 1)) (M / 2 ^ (t + 1))) := ⟨hmz1, by have := HTR.out.2; omega⟩
      have hand : bits .and .u64 (M : Int) ((2 ^ t : Nat) : Int) = 0 := by rw [bits_and_u64_nat _ _ (by omega) (by omega), and_bit0 hb]; rfl
      obtain ⟨P, HP⟩ : ∃ P : Nat, Hid (2 ^ t = P) := ⟨2 ^ t, Eq.refl (2 ^ t)⟩
      rw [HP.out] at hpos hP2 hand ⊢
      clear hb htr hmz1 hms
      go_wp2_with fail
      exact ⟨⟨t + 1, ht2, by congr 1, by congr 1; rw [Nat.pow_succ, HP.out]; omega, trivial, HNX⟩, by simp only [intOf]; omega⟩
    · have hb1 : M / 2 ^ t % 2 = 1 := by omega
      have htr := trail_end ht hb1
      have htt : trail 53 M = t := by have := HTR.out.2; rw [htr] at this; exact this
      have HTT : Hid (trail 53 M = t) := htt
      have hand : (bits .and .u64 (M : Int) ((2 ^ t : Nat) : Int) == 0) = false := by
        rw [bits_and_u64_nat _ _ (by omega) (by omega), beq_eq_false_iff_ne]
        have := and_bit1 hb1
        omega
      obtain ⟨P, HP⟩ : ∃ P : Nat, Hid (2 ^ t = P) := ⟨2 ^ t, Eq.refl (2 ^ t)⟩
      rw [HP.out] at hpos hP2 hand ⊢
      clear hb htr hb1 hms
      have hUl := Nat.div_le_self M (2 ^ t)
      have hcast : ((M : Int) / 2 ^ t) = ((M / 2 ^ t : Nat) : Int) := by rw [Int.natCast_ediv]; simp
      obtain ⟨U, HU⟩ : ∃ U : Nat, Hid (M / 2 ^ t = U) := ⟨M / 2 ^ t, Eq.refl (M / 2 ^ t)⟩
      obtain ⟨E2, HE2⟩ : ∃ E2 : Int, Hid (((EX : Int) - 1075) + (t : Int) = E2) := ⟨((EX : Int) - 1075) + (t : Int), Eq.refl (((EX : Int) - 1075) + (t : Int))⟩
      have hE2 : -1074 ≤ E2 ∧ E2 ≤ 1100 := by have := HE2.out; omega
      rw [HU.out] at hcast hUl
      have hdU := decN_len 15 U (by omega)
      have hdE := decN_len 3 E2.natAbs (by omega)
      have hfm : fmtN x = ([45] : Bs) ++ decN U ++ [112] ++ (if E2 < 0 then [45] else []) ++ decN E2.natAbs := by
        have h := fmtN_other HX.out HNN.out H2.out H3.out (fun h => HLT.out.2 (by have := h.2; rw [ham] at this; exact this)) (M := M) (t := t) (E := ((EX : Int) - 1075)) (by rw [if_neg HEX.out]; exact HM.out.symm) (by rw [if_neg HEX.out, HEXV.out]) HTT.out
        rw [hsg, HU.out, HE2.out] at h
        exact h
      have HFM : Hid (fmtN x = ([45] : Bs) ++ decN U ++ [112] ++ (if E2 < 0 then [45] else []) ++ decN E2.natAbs) := hfm
      clear hfm
      have hE2e : ((EX : Int) - 1075) + (t : Int) = E2 := HE2.out
      go_wp2_with fail
      refine (lay_txt (S := ([45] : Bs)) T2 (by omega) (by simp; omega)).mono ?_
      rintro e' w2 ⟨rfl, q1, q2⟩
      have hl1 : (([45] : Bs) ++ decN U).length ≤ 17 := by simp; omega
      obtain ⟨S1, HS1⟩ : ∃ S1 : Bs, Hid (([45] : Bs) ++ decN U = S1) := ⟨([45] : Bs) ++ decN U, Eq.refl (([45] : Bs) ++ decN U)⟩
      rw [HS1.out] at q1 hl1 ⊢
      rw [HS1.out] at HFM
      have T3 := q1.put (by omega) 112
      obtain ⟨⟨y0, hy0⟩, hy1, hy2⟩ := q1.at (j := S1.length) (by omega)
      have e112 : ((112 : UInt8).toNat : Int) = 112 := rfl
      rw [e112] at T3
      have HF2 : Hid (Fr (fun j => j = bf) w (w2.setCell ⟨bf, S1.length, none⟩ (.int .u8 112))) := (HF1.out.trans q2 (fun _ _ x => x)).setCell (p := ⟨bf, S1.length, none⟩) (.inl rfl) _
      by_cases hE0 : E2 < 0
      · rw [if_pos hE0] at HFM
        have hl3 : (S1 ++ [112]).length = S1.length + 1 := by simp
        have T4 := T3.put (by rw [hl3]; omega) 45
        obtain ⟨⟨z0, hz0⟩, hz1, hz2⟩ := T3.at (j := S1.length + 1) (by omega)
        have e45' : ((45 : UInt8).toNat : Int) = 45 := rfl
        rw [e45', hl3] at T4
        have HF3 : Hid (Fr (fun j => j = bf) w ((w2.setCell ⟨bf, S1.length, none⟩ (.int .u8 112)).setCell ⟨bf, S1.length + 1, none⟩ (.int .u8 45))) := HF2.out.setCell (p := ⟨bf, S1.length + 1, none⟩) (.inl rfl) _
        have hwr : IntKind.u64.wrap (-E2) = ((E2.natAbs : Nat) : Int) := by rw [IntKind.wrap_u64]; omega
        have hlen4 : (((S1 ++ [112] ++ [45]).length : Nat) : Int) = (S1.length : Int) + 1 + 1 := by simp; omega
        have HT4 : Hid (Txt ((w2.setCell ⟨bf, S1.length, none⟩ (.int .u8 112)).setCell ⟨bf, S1.length + 1, none⟩ (.int .u8 45)) bf (S1 ++ [112] ++ [45])) := T4
        have HLEN4 : Hid ((((S1 ++ [112] ++ [45]).length : Nat) : Int) = (S1.length : Int) + 1 + 1) := hlen4
        have hbnd : (S1 ++ [112] ++ [45] ++ decN E2.natAbs).length ≤ 24 := by simp; omega
        clear T3 T4 q1 q2 hl3 hlen4
        go_wp2_with fail
        have LAY := lay_txt (u := E2.natAbs) HT4.out (by omega) (by simp; omega)
        rw [HLEN4.out] at LAY
        refine LAY.mono ?_
        clear LAY
        rintro e' w3 ⟨rfl, v1, v2⟩
        have hconv := run_convert_bytes_back (P := Tryz.prog) w3 49 9 5 ⟨bf, 0, none⟩ 24 (S1 ++ [112] ++ [45] ++ decN E2.natAbs) (by kernel_rfl) (by kernel_rfl) (by kernel_rfl) v1.cells
        obtain ⟨SF, HSF⟩ : ∃ SF : Bs, Hid (S1 ++ [112] ++ [45] ++ decN E2.natAbs = SF) := ⟨(S1 ++ [112] ++ [45] ++ decN E2.natAbs : Bs), Eq.refl (S1 ++ [112] ++ [45] ++ decN E2.natAbs : Bs)⟩
        have FIN : Hid (Q (.returned (sv (S1 ++ [112] ++ [45] ++ decN E2.natAbs))) w3) := by
          rw [← HQ.out, HFM.out]
          exact ⟨rfl, ⟨_, v1⟩, HF3.out.trans v2 (fun _ _ x => x)⟩
        rw [HSF.out] at hconv hbnd FIN ⊢
        clear v1 v2
        go_wp2_with fail
        exact FIN.out
      · rw [if_neg hE0] at HFM
        have hl3 : (S1 ++ [112]).length = S1.length + 1 := by simp
        have hwr : IntKind.u64.wrap E2 = ((E2.natAbs : Nat) : Int) := by rw [IntKind.wrap_u64]; omega
        have hlen4 : (((S1 ++ [112]).length : Nat) : Int) = (S1.length : Int) + 1 := by simp
        have HT4 : Hid (Txt (w2.setCell ⟨bf, S1.length, none⟩ (.int .u8 112)) bf (S1 ++ [112])) := T3
        have HLEN4 : Hid ((((S1 ++ [112]).length : Nat) : Int) = (S1.length : Int) + 1) := hlen4
        have hbnd : (S1 ++ [112] ++ decN E2.natAbs).length ≤ 24 := by simp; omega
        clear T3 q1 q2 hl3 hlen4
        go_wp2_with fail
        have LAY := lay_txt (u := E2.natAbs) HT4.out (by omega) (by simp; omega)
        rw [HLEN4.out] at LAY
        refine LAY.mono ?_
        clear LAY
        rintro e' w3 ⟨rfl, v1, v2⟩
        have hconv := run_convert_bytes_back (P := Tryz.prog) w3 49 9 5 ⟨bf, 0, none⟩ 24 (S1 ++ [112] ++ decN E2.natAbs) (by kernel_rfl) (by kernel_rfl) (by kernel_rfl) v1.cells
        obtain ⟨SF, HSF⟩ : ∃ SF : Bs, Hid (S1 ++ [112] ++ decN E2.natAbs = SF) := ⟨(S1 ++ [112] ++ decN E2.natAbs : Bs), Eq.refl (S1 ++ [112] ++ decN E2.natAbs : Bs)⟩
        have FIN : Hid (Q (.returned (sv (S1 ++ [112] ++ decN E2.natAbs))) w3) := by
          rw [← HQ.out, HFM.out]
          exact ⟨by rw [List.append_nil], ⟨_, v1⟩, HF2.out.trans v2 (fun _ _ x => x)⟩
        rw [HSF.out] at hconv hbnd FIN ⊢
        clear v1 v2
        go_wp2_with fail
        exact FIN.out
theorem fmt_nan {bn bf x : Nat} (hT : Txt w bf []) (h1 : ¬ fOrd x x = some .eq) : Calls Tryz.prog 42 #[.pointer (some ⟨bn, 0, none⟩), .int .u64 x] w (FmP w bn bf (fmtN x)) := by
  have hf : fmtN x = [110, 97, 110] := by
    have e : isNan x = true := by
      have e : isNan x = (fOrd x x != some .eq) := rfl
      rw [e]; simpa using h1
    unfold fmtN
    rw [if_pos e]
  rw [hf]
  obtain ⟨Q, HQ⟩ : ∃ Q : Ending → World → Prop, Hid (FmP w bn bf [110, 97, 110] = Q) := ⟨_, rfl⟩
  rw [HQ.out]
  have FIN : Hid (Q (.returned (sv [110, 97, 110])) w) := by rw [← HQ.out]; exact ⟨rfl, ⟨_, hT⟩, Fr.refl _ _⟩
  have g1 : (FloatKind.f64.format.order x x != some .eq) = true := by
    have : (fOrd x x != some .eq) = true := by simpa using h1
    exact this
  clear hf hT h1
  go_enter Tryz.func42, Tryz.ntmps42
  go_wp2_with fail
  rw [run_frombits]
  go_wp2_with fail
  exact FIN.out
theorem fmt_inf {bn bf x : Nat} (hT : Txt w bf []) (h1 : fOrd x x = some .eq) (h2 : (fOrd x maxFin == some .gt) = true) : Calls Tryz.prog 42 #[.pointer (some ⟨bn, 0, none⟩), .int .u64 x] w (FmP w bn bf (fmtN x)) := by
  have hf : fmtN x = [105, 110, 102] := by
    have e : isNan x = false := by
      have e : isNan x = (fOrd x x != some .eq) := rfl
      rw [e, h1]; rfl
    unfold fmtN
    rw [if_neg (by rw [e]; decide), if_pos h2]
  rw [hf]
  obtain ⟨Q, HQ⟩ : ∃ Q : Ending → World → Prop, Hid (FmP w bn bf [105, 110, 102] = Q) := ⟨_, rfl⟩
  rw [HQ.out]
  have FIN : Hid (Q (.returned (sv [105, 110, 102])) w) := by rw [← HQ.out]; exact ⟨rfl, ⟨_, hT⟩, Fr.refl _ _⟩
  have g1 : FloatKind.f64.format.order x x = some .eq := h1
  have g2 : (FloatKind.f64.format.order x 9218868437227405311 == some .gt) = true := h2
  clear hf hT h1 h2
  go_enter Tryz.func42, Tryz.ntmps42
  go_wp2_with fail
  rw [run_frombits]
  go_wp2_with fail
  exact FIN.out
theorem fmt_ninf {bn bf x : Nat} (hT : Txt w bf []) (h1 : fOrd x x = some .eq) (h2 : (fOrd x maxFin == some .gt) = false) (h3 : (fOrd x (maxFin + 2 ^ 63) == some .lt) = true) : Calls Tryz.prog 42 #[.pointer (some ⟨bn, 0, none⟩), .int .u64 x] w (FmP w bn bf (fmtN x)) := by
  have hf : fmtN x = [45, 105, 110, 102] := by
    have e : isNan x = false := by
      have e : isNan x = (fOrd x x != some .eq) := rfl
      rw [e, h1]; rfl
    unfold fmtN
    rw [if_neg (by rw [e]; decide), if_neg (by rw [h2]; decide), if_pos h3]
  rw [hf]
  obtain ⟨Q, HQ⟩ : ∃ Q : Ending → World → Prop, Hid (FmP w bn bf [45, 105, 110, 102] = Q) := ⟨_, rfl⟩
  rw [HQ.out]
  have FIN : Hid (Q (.returned (sv [45, 105, 110, 102])) w) := by rw [← HQ.out]; exact ⟨rfl, ⟨_, hT⟩, Fr.refl _ _⟩
  have g1 : FloatKind.f64.format.order x x = some .eq := h1
  have g2 : (FloatKind.f64.format.order x 9218868437227405311 == some .gt) = false := h2
  have g3 : (FloatKind.f64.format.order x 18442240474082181119 == some .lt) = true := h3
  clear hf hT h1 h2 h3
  go_enter Tryz.func42, Tryz.ntmps42
  go_wp2_with fail
  rw [run_frombits]
  go_wp2_with fail
  exact FIN.out
theorem format_any {bn bf x : Nat} (hn : w.cell? ⟨bn, 0, none⟩ = some (.slice (some ⟨bf, 0, none⟩) 24 24)) (hnl : bn < w.heap.size) (hT : Txt w bf []) (hne : bn ≠ bf) (hx : x < 18446744073709551616) :
    Calls Tryz.prog 42 #[.pointer (some ⟨bn, 0, none⟩), .int .u64 x] w (FmP w bn bf (fmtN x)) := by
  by_cases h1 : fOrd x x = some .eq
  · cases h2 : (fOrd x maxFin == some .gt) with
    | true => exact fmt_inf hT h1 h2
    | false =>
      cases h3 : (fOrd x (maxFin + 2 ^ 63) == some .lt) with
      | true => exact fmt_ninf hT h1 h2 h3
      | false =>
        have hz : x / 4503599627370496 % 2048 = 0 → ¬ (fOrd (x % 2 ^ 63) two53 = some .lt ∧ fOrd (x % 2 ^ 63) (floorN (x % 2 ^ 63)) = some .eq) → x % 4503599627370496 ≠ 0 := by
          intro he hw hm
          have : x % 2 ^ 63 = 0 := by omega
          rw [this] at hw
          exact hw zero_whole
        by_cases hs : x / 2 ^ 63 = 0
        · by_cases hlt : fOrd (x % 2 ^ 63) two53 = some .lt
          · by_cases hfe : fOrd (x % 2 ^ 63) (floorN (x % 2 ^ 63)) = some .eq
            · exact fmtW_pos hn hnl hT hne hx h1 h2 h3 hs hlt hfe
            · by_cases he : x / 4503599627370496 % 2048 = 0
              · exact fmtO_pos0f hn hnl hT hne hx h1 h2 h3 hs hlt hfe he (hz he (fun h => hfe h.2))
              · exact fmtO_pos1f hn hnl hT hne hx h1 h2 h3 hs hlt hfe he
          · by_cases he : x / 4503599627370496 % 2048 = 0
            · exact fmtO_pos0b hn hnl hT hne hx h1 h2 h3 hs hlt he (hz he (fun h => hlt h.1))
            · exact fmtO_pos1b hn hnl hT hne hx h1 h2 h3 hs hlt he
        · by_cases hlt : fOrd (x % 2 ^ 63) two53 = some .lt
          · by_cases hfe : fOrd (x % 2 ^ 63) (floorN (x % 2 ^ 63)) = some .eq
            · exact fmtW_neg hn hnl hT hne hx h1 h2 h3 hs hlt hfe
            · by_cases he : x / 4503599627370496 % 2048 = 0
              · exact fmtO_neg0f hn hnl hT hne hx h1 h2 h3 hs hlt hfe he (hz he (fun h => hfe h.2))
              · exact fmtO_neg1f hn hnl hT hne hx h1 h2 h3 hs hlt hfe he
          · by_cases he : x / 4503599627370496 % 2048 = 0
            · exact fmtO_neg0b hn hnl hT hne hx h1 h2 h3 hs hlt he (hz he (fun h => hlt h.1))
            · exact fmtO_neg1b hn hnl hT hne hx h1 h2 h3 hs hlt he
  · exact fmt_nan hT h1
end
end Go.Proofs.Qxb6500574aGreatDoor
