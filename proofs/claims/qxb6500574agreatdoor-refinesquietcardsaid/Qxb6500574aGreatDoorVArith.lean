/-
  THE WALKS of num: Arith; math.Floor.
-/
import Derived.Test.Qxb6500574aGreatDoorVNum
import Derived.Test.Qxb6500574aGreatDoorVLawN
namespace Go.Proofs.Qxb6500574aGreatDoor
open Go Go.RowKit
set_option linter.unusedVariables false
set_option linter.unusedSimpArgs false

/-- r is what an operation gave: none: a NaN, whichever -/
def FV (o : Option Nat) (r : Nat) : Prop := o = some r ∨ (o = none ∧ isNan r = true)
theorem FV.bits {o : Option Nat} {r : Nat} (h : FV o r) : bitsN (some r) = bitsN o := by
  rcases h with h | ⟨h, hn⟩
  · rw [h]
  · rw [h]; simp [bitsN, hn]
theorem nan_datum {x : Nat} (h : isNan x = true) : ∃ s t, FloatKind.f64.format.read x = .nan s t := (nan_iff x).1 h
theorem nan_opp {d : Ieee.Datum} (h : ∃ s t, d = .nan s t) : ∃ s t, d.opposite = .nan s t := by
  obtain ⟨s, t, rfl⟩ := h
  exact ⟨_, _, rfl⟩
theorem sum_nan1 {a b : Ieee.Datum} (h : ∃ s t, a = .nan s t) : a.sum b = none := by obtain ⟨s, t, rfl⟩ := h; cases b <;> rfl
theorem sum_nan2 {a b : Ieee.Datum} (h : ∃ s t, b = .nan s t) : a.sum b = none := by obtain ⟨s, t, rfl⟩ := h; cases a <;> rfl
theorem prod_nan1 {a b : Ieee.Datum} (h : ∃ s t, a = .nan s t) : a.product b = none := by obtain ⟨s, t, rfl⟩ := h; cases b <;> rfl
theorem mul_nan1 {a b : Nat} (h : isNan a = true) : FloatKind.f64.format.mul a b = none := by
  unfold Ieee.Format.mul; rw [prod_nan1 (nan_datum h)]; rfl
theorem sub_nan2 {a b : Nat} (h : isNan b = true) : FloatKind.f64.format.sub a b = none := by
  unfold Ieee.Format.sub; rw [sum_nan2 (nan_opp (nan_datum h))]; rfl
theorem nan_cut (t : Nat) : isNan (t % 2 * 2 ^ 63 + 0x7ff0000000000000 + 1 + t / 2 % (2 ^ 52 - 1)) = true := by
  rw [nan_bits]
  have h1 : t % 2 = 0 ∨ t % 2 = 1 := by omega
  have h2 : t / 2 % (2 ^ 52 - 1) < 2 ^ 52 - 1 := Nat.mod_lt _ (by decide)
  generalize t / 2 % (2 ^ 52 - 1) = q at h2 ⊢
  rcases h1 with h1 | h1 <;> rw [h1] <;> omega
theorem run_fop {op : BinOp} {x y : Nat} {fo : Option Nat} (w : World) (h : (match op with | .add => some (FloatKind.f64.format.add x y) | .sub => some (FloatKind.f64.format.sub x y) | .mul => some (FloatKind.f64.format.mul x y) | .quo => some (FloatKind.f64.format.div x y) | _ => none) = some fo) :
    ∃ r w', (binOp op 156 (.float .f64 x) (.float .f64 y)).run Tryz.prog w = .ok (.float .f64 r) w' ∧ Fr (fun _ => False) w w' ∧ FV fo r := by
  cases hf : fo with
  | some r =>
    refine ⟨r, w, ?_, Fr.refl _ _, .inl rfl⟩
    rw [hf] at h
    cases op <;> simp only [Option.some.injEq] at h <;> first | (cases h; done) | skip
    all_goals simp [binOp, Op.floatArith, h]
  | none =>
    rw [hf] at h
    refine ⟨_, w.drew, ?_, (Fr.refl _ _).drew, .inr ⟨rfl, nan_cut (w.tape w.drawn (.nanBits .f64 x y))⟩⟩
    cases op <;> simp only [Option.some.injEq] at h <;> first | (cases h; done) | skip
    all_goals simp [binOp, Op.floatArith, h, Question.forced, Question.cut]
section
variable {w : World}
set_option maxRecDepth 100000
set_option maxHeartbeats 400000
theorem quiet_nan {s : Bool} {t : Nat} (h : t < 4503599627370496) : isNan (FloatKind.f64.encode (.nan s (FloatKind.f64.format.quiet t))) = true := by
  have e : FloatKind.f64.encode (.nan s (FloatKind.f64.format.quiet t)) = Ieee.double.word s (Ieee.double.infRung + (t ||| 2 ^ 51) % 4503599627370496) := rfl
  have hi : Ieee.double.infRung = 9218868437227405312 := rfl
  have hsw : Ieee.double.signWeight = 9223372036854775808 := rfl
  have h1 : t ||| 2 ^ 51 < 2 ^ 52 := Nat.or_lt_two_pow (by omega) (by decide)
  have h2 : 2 ^ 51 ≤ t ||| 2 ^ 51 := Nat.right_le_or
  have hm : (t ||| 2 ^ 51) % 4503599627370496 = t ||| 2 ^ 51 := Nat.mod_eq_of_lt (by omega)
  rw [nan_bits, e, hm, hi]
  unfold Ieee.Format.word
  rw [hsw]
  generalize t ||| 2 ^ 51 = q at h1 h2 ⊢
  split <;> omega
theorem read_nan_lt {x : Nat} {s : Bool} {t : Nat} (h : FloatKind.f64.decode x = .nan s t) : t < 4503599627370496 := by
  have e : FloatKind.f64.decode x = Ieee.double.read x := rfl
  have hi : Ieee.double.infRung = 9218868437227405312 := rfl
  have hsw : Ieee.double.signWeight = 9223372036854775808 := rfl
  have hb : Ieee.double.binade = 4503599627370496 := rfl
  rw [e] at h
  unfold Ieee.Format.read at h
  simp only [hi, hsw, hb] at h
  split at h
  · cases h
  · split at h
    · cases h
    · split at h
      · cases h
      · cases h; omega
/-- Floor: of a NaN a NaN -/
theorem run_floor (x : Nat) (w : World) : ∃ r w', (callFunc 103 #[.float .f64 x]).run Tryz.prog w = .ok (.value (.float .f64 r)) w' ∧ Fr (fun _ => False) w w' ∧ (isNan x = false → r = floorN x) ∧ (isNan x = true → isNan r = true) := by
  have hrun : (callFunc 103 #[.float .f64 x]).run Tryz.prog w = ((Extern.MathFloor.toIntegral "math.archFloor" .down #[.float .f64 x]).run Tryz.prog w).andThen fun v w => .ok (.value v) w := by
    rw [run_callFunc_extern Tryz.func103 (by kernel_rfl) (by kernel_rfl) (by kernel_rfl) (e := Extern.MathFloor.toIntegral "math.archFloor" .down) (by kernel_rfl)]
  obtain ⟨q, e1, hf⟩ : ∃ q : Question, Extern.MathFloor.toIntegral "math.archFloor" .down #[.float .f64 x] = (match FloatKind.f64.decode x with
    | .nan s t => if FloatKind.f64.format.quiet t = t then pure (.float .f64 x) else (do
      let kept ← choose q
      pure (.float .f64 (if kept == 1 then x else FloatKind.f64.encode (.nan s (FloatKind.f64.format.quiet t)))))
    | d => pure (.float .f64 (FloatKind.f64.encode (d.integral .down)))) ∧ q.forced = false := ⟨_, rfl, rfl⟩
  rw [e1] at hrun
  cases hd : FloatKind.f64.decode x with
  | nan s t =>
    rw [hd] at hrun
    have hn : isNan x = true := (nan_iff x).2 ⟨s, t, hd⟩
    by_cases hq : FloatKind.f64.format.quiet t = t
    · refine ⟨x, w, ?_, Fr.refl _ _, (fun h => by rw [hn] at h; cases h), fun _ => hn⟩
      rw [hrun]
      simp [hq]
    · obtain ⟨k, hk⟩ : ∃ k, k = q.cut (w.tape w.drawn q) := ⟨_, rfl⟩
      refine ⟨if k == 1 then x else FloatKind.f64.encode (.nan s (FloatKind.f64.format.quiet t)), w.drew, ?_, (Fr.refl _ _).drew, (fun h => by rw [hn] at h; cases h), fun _ => ?_⟩
      · rw [hrun]
        simp [hq, hf, hk]
      · split
        · exact hn
        · exact quiet_nan (read_nan_lt hd)
  | infinity s =>
    rw [hd] at hrun
    have hn : isNan x = false := by
      cases h : isNan x with
      | false => rfl
      | true => obtain ⟨a, b, h2⟩ := (nan_iff x).1 h; rw [hd] at h2; cases h2
    refine ⟨floorN x, w, ?_, Fr.refl _ _, fun _ => rfl, (fun h => by rw [hn] at h; cases h)⟩
    rw [hrun]
    simp [floorN, hd]
  | number s m p =>
    rw [hd] at hrun
    have hn : isNan x = false := by
      cases h : isNan x with
      | false => rfl
      | true => obtain ⟨a, b, h2⟩ := (nan_iff x).1 h; rw [hd] at h2; cases h2
    refine ⟨floorN x, w, ?_, Fr.refl _ _, fun _ => rfl, (fun h => by rw [hn] at h; cases h)⟩
    rw [hrun]
    simp [floorN, hd]
theorem floor_any (x : Nat) : Calls Tryz.prog 69 #[.float .f64 x] w fun e w' => (∃ r, e = .returned (.float .f64 r) ∧ (isNan x = false → r = floorN x) ∧ (isNan x = true → isNan r = true)) ∧ Fr (fun _ => False) w w' := by
  obtain ⟨r, w', hr, hf, h1, h2⟩ := run_floor x w
  obtain ⟨Q, HQ⟩ : ∃ Q : Ending → World → Prop, Hid ((fun e w' => (∃ r, e = .returned (.float .f64 r) ∧ (isNan x = false → r = floorN x) ∧ (isNan x = true → isNan r = true)) ∧ Fr (fun _ => False) w w') = Q) := ⟨_, rfl⟩
  rw [HQ.out]
  have FIN : Hid (Q (.returned (.float .f64 r)) w') := by rw [← HQ.out]; exact ⟨⟨r, rfl, h1, h2⟩, hf⟩
  clear HQ h1 h2 hf
  go_enter Tryz.func69, Tryz.ntmps69
  go_wp2_with fail
  exact FIN.out
theorem FV.floor {o : Option Nat} {q r : Nat} (h : FV o q) (hf : ∀ x, o = some x → isNan x = false) (h1 : isNan q = false → r = floorN q) (h2 : isNan q = true → isNan r = true) : FV (o.map floorN) r := by
  rcases h with h | ⟨h, hn⟩
  · rw [h]; exact .inl (by rw [h1 (hf q h)]; rfl)
  · rw [h]; exact .inr ⟨rfl, h2 hn⟩
theorem div_nn {a b x : Nat} (h : FloatKind.f64.format.div a b = some x) : isNan x = false := by
  have := div_fin a b
  rw [h] at this
  exact this.2
def ArP (n : Value) (op a b : Nat) : Prop := ∀ w, Calls Tryz.prog 310 #[n, .int .i64 op, .int .u64 a, .int .u64 b] w fun e w' => e = .returned (.int .u64 (arithN op a b)) ∧ Fr (fun _ => False) w w'
theorem arith_1 (n : Value) (a b : Nat) : ArP n 1 a b := by
  intro w
  obtain ⟨r, w', hr, hf, hv⟩ := run_fop (op := .add) (x := a) (y := b) w rfl
  have hb : arithN 1 a b = bitsN (some r) := hv.bits.symm
  rw [show ((1 : Nat) : Int) = 1 from rfl, hb]
  have HF : Hid (Fr (fun _ => False) w w') := hf
  clear hf hv hb
  go_enter Tryz.func310, Tryz.ntmps310
  go_wp2_with fail
  rw [run_frombits]
  go_wp2_with fail
  rw [run_frombits]
  go_wp2_with (go_at_call 317; refine (bits_some _).mono ?_; rintro e w' ⟨rfl, rfl⟩)
  go_ret
  exact ⟨rfl, HF.out⟩
theorem arith_2 (n : Value) (a b : Nat) : ArP n 2 a b := by
  intro w
  obtain ⟨r, w', hr, hf, hv⟩ := run_fop (op := .sub) (x := a) (y := b) w rfl
  have hb : arithN 2 a b = bitsN (some r) := hv.bits.symm
  rw [show ((2 : Nat) : Int) = 2 from rfl, hb]
  have HF : Hid (Fr (fun _ => False) w w') := hf
  clear hf hv hb
  go_enter Tryz.func310, Tryz.ntmps310
  go_wp2_with fail
  rw [run_frombits]
  go_wp2_with fail
  rw [run_frombits]
  go_wp2_with (go_at_call 317; refine (bits_some _).mono ?_; rintro e w' ⟨rfl, rfl⟩)
  go_ret
  exact ⟨rfl, HF.out⟩
theorem arith_3 (n : Value) (a b : Nat) : ArP n 3 a b := by
  intro w
  obtain ⟨r, w', hr, hf, hv⟩ := run_fop (op := .mul) (x := a) (y := b) w rfl
  have hb : arithN 3 a b = bitsN (some r) := hv.bits.symm
  rw [show ((3 : Nat) : Int) = 3 from rfl, hb]
  have HF : Hid (Fr (fun _ => False) w w') := hf
  clear hf hv hb
  go_enter Tryz.func310, Tryz.ntmps310
  go_wp2_with fail
  rw [run_frombits]
  go_wp2_with fail
  rw [run_frombits]
  go_wp2_with (go_at_call 317; refine (bits_some _).mono ?_; rintro e w' ⟨rfl, rfl⟩)
  go_ret
  exact ⟨rfl, HF.out⟩
theorem arith_4 (n : Value) (a b : Nat) : ArP n 4 a b := by
  intro w
  obtain ⟨r, w', hr, hf, hv⟩ := run_fop (op := .quo) (x := a) (y := b) w rfl
  have hb : arithN 4 a b = bitsN (some r) := hv.bits.symm
  rw [show ((4 : Nat) : Int) = 4 from rfl, hb]
  have HF : Hid (Fr (fun _ => False) w w') := hf
  clear hf hv hb
  go_enter Tryz.func310, Tryz.ntmps310
  go_wp2_with fail
  rw [run_frombits]
  go_wp2_with fail
  rw [run_frombits]
  go_wp2_with (go_at_call 317; refine (bits_some _).mono ?_; rintro e w' ⟨rfl, rfl⟩)
  go_ret
  exact ⟨rfl, HF.out⟩
theorem arith_5 (n : Value) (a b : Nat) : ArP n 5 a b := by
  intro w
  obtain ⟨q, w1, hr, hf, hv⟩ := run_fop (op := .quo) (x := a) (y := b) w rfl
  rw [show ((5 : Nat) : Int) = 5 from rfl]
  have HF : Hid (Fr (fun _ => False) w w1) := hf
  have HV : Hid (FV (FloatKind.f64.format.div a b) q) := hv
  clear hf hv
  go_enter Tryz.func310, Tryz.ntmps310
  go_wp2_with fail
  rw [run_frombits]
  go_wp2_with fail
  rw [run_frombits]
  go_wp2_with fail
  refine (floor_any q).mono ?_
  rintro e w2 ⟨⟨r, rfl, h1, h2⟩, f2⟩
  have hb : arithN 5 a b = bitsN (some r) := (HV.out.floor (fun x hx => div_nn hx) h1 h2).bits.symm
  have HB : Hid (arithN 5 a b = bitsN (some r)) := hb
  have HF2 : Hid (Fr (fun _ => False) w w2) := HF.out.trans f2 (fun _ _ x => x)
  clear h1 h2 f2 hb
  go_wp2_with (go_at_call 317; refine (bits_some _).mono ?_; rintro e w' ⟨rfl, rfl⟩)
  go_ret
  exact ⟨by rw [HB.out]; rfl, HF2.out⟩
theorem arith_6 (n : Value) (a b : Nat) : ArP n 6 a b := by
  intro w
  obtain ⟨q, w1, hr, hf, hv⟩ := run_fop (op := .quo) (x := a) (y := b) w rfl
  rw [show ((6 : Nat) : Int) = 6 from rfl]
  have HF : Hid (Fr (fun _ => False) w w1) := hf
  have HV : Hid (FV (FloatKind.f64.format.div a b) q) := hv
  clear hf hv
  go_enter Tryz.func310, Tryz.ntmps310
  go_wp2_with fail
  rw [run_frombits]
  go_wp2_with fail
  rw [run_frombits]
  go_wp2_with fail
  refine (floor_any q).mono ?_
  rintro e w2 ⟨⟨g, rfl, h1, h2⟩, f2⟩
  have hg := HV.out.floor (fun x hx => div_nn hx) h1 h2
  obtain ⟨p, w3, hr3, f3, hv3⟩ := run_fop (op := .mul) (x := g) (y := b) w2 rfl
  obtain ⟨r, w4, hr4, f4, hv4⟩ := run_fop (op := .sub) (x := a) (y := p) w3 rfl
  have hb : arithN 6 a b = bitsN (some r) := by
    refine Eq.trans ?_ (FV.bits (o := ((FloatKind.f64.format.div a b).map floorN).bind fun q => (FloatKind.f64.format.mul q b).bind fun p => FloatKind.f64.format.sub a p) ?_).symm
    · rfl
    · rcases hg with hg | ⟨hg, hn⟩
      · rw [hg]
        rcases hv3 with hv3 | ⟨hv3, hn3⟩
        · simp only [Option.bind_some, hv3]
          exact hv4
        · simp only [Option.bind_some, hv3]
          refine .inr ⟨rfl, ?_⟩
          rcases hv4 with hv4 | ⟨_, hv4⟩
          · rw [sub_nan2 hn3] at hv4; cases hv4
          · exact hv4
      · rw [hg]
        refine .inr ⟨rfl, ?_⟩
        have hn3 : isNan p = true := by
          rcases hv3 with hv3 | ⟨_, hv3⟩
          · rw [mul_nan1 hn] at hv3; cases hv3
          · exact hv3
        rcases hv4 with hv4 | ⟨_, hv4⟩
        · rw [sub_nan2 hn3] at hv4; cases hv4
        · exact hv4
  have HB : Hid (arithN 6 a b = bitsN (some r)) := hb
  have HF2 : Hid (Fr (fun _ => False) w w4) := ((HF.out.trans f2 (fun _ _ x => x)).trans f3 (fun _ _ x => x)).trans f4 (fun _ _ x => x)
  clear h1 h2 f2 f3 f4 hb hg hv3 hv4
  go_wp2_with (go_at_call 317; refine (bits_some _).mono ?_; rintro e w' ⟨rfl, rfl⟩)
  go_ret
  exact ⟨by rw [HB.out]; rfl, HF2.out⟩
theorem arith_any (n : Value) {op : Nat} (h : 1 ≤ op ∧ op ≤ 6) (a b : Nat) : Calls Tryz.prog 310 #[n, .int .i64 op, .int .u64 a, .int .u64 b] w fun e w' => e = .returned (.int .u64 (arithN op a b)) ∧ Fr (fun _ => False) w w' := by
  have : op = 1 ∨ op = 2 ∨ op = 3 ∨ op = 4 ∨ op = 5 ∨ op = 6 := by omega
  rcases this with rfl | rfl | rfl | rfl | rfl | rfl
  · exact arith_1 n a b w
  · exact arith_2 n a b w
  · exact arith_3 n a b w
  · exact arith_4 n a b w
  · exact arith_5 n a b w
  · exact arith_6 n a b w
end
end Go.Proofs.Qxb6500574aGreatDoor
