/-
  THE WALK of complaw: Keeps.
-/
import Derived.Test.Qxb6500574aGreatDoorWScr
import Derived.Test.Qxb6500574aGreatDoorWKp4
import Derived.Test.Qxb6500574aGreatDoorWKp5
import Derived.Test.Qxb6500574aGreatDoorWKp6
import Derived.Test.Qxb6500574aGreatDoorWKp7
namespace Go.Proofs.Qxb6500574aGreatDoor
open Go Go.RowKit
set_option linter.unusedVariables false
set_option linter.unusedSimpArgs false
section
set_option maxRecDepth 100000
set_option maxHeartbeats 1000000
variable {bc sx : Nat} {w : World} {o : Nat → Nat} {C : CC} {num : Value} {A : VL} {c : CmD}
theorem krun_any (h : CM bc w o A C sx num c) (s : Bs) {fuel : Int} (hf0 : -9223372036854775808 ≤ fuel) (hf1 : fuel ≤ 9223372036854775807) :
    Calls Tryz.prog 8 #[.pointer (some ⟨C.cb, 0, none⟩), sv s, .int .i64 fuel] w (KpQ bc w o C sx num) := by
  rcases image_cases s with ⟨e, p, hi, h1, h2, h3⟩ | ⟨img, hi, h1, h2, h3⟩
  · exact krun_err h hf1 hi h1 h2 h3
  · obtain ⟨n, ⟨ae, aN, am, as1, at1⟩, hr, RK⟩ := run_good hi fuel
    exact krun_ok h hf0 hf1 hi h1 hr RK
theorem kimg_any (h : CM bc w o A C sx num c) (s : Bs) {fuel : Int} (hf1 : fuel ≤ 9223372036854775807) (a0 a2 : Nat) :
    Calls Tryz.prog 9 #[.agg #[.pointer (some ⟨a0, 0, none⟩), .pointer (some ⟨bc, 0, none⟩), .pointer (some ⟨a2, 0, none⟩)], .pointer (some ⟨C.cb, 0, none⟩), sv s, .int .i64 fuel] w (KpQ bc w o C sx num) := by
  rcases image_cases s with ⟨e, p, hi, h1, h2, h3⟩ | ⟨img, hi, h1, h2, h3⟩
  · exact kimg_err h hf1 hi h1 a0 a2
  · obtain ⟨n, ⟨ae, aN, am, as1, at1⟩, hr, RK⟩ := run_good hi fuel
    exact kimg_ok h hf1 hi h3 hr RK.e a0 a2
theorem ksay_any (h : CM bc w o A C sx num c) (k : Int) {x : Nat} (hx : x < 18446744073709551616) (a0 a1 a2 : Nat) (hnum : num = .pointer (some ⟨a2, 0, none⟩)) :
    Calls Tryz.prog 10 #[.agg #[.pointer (some ⟨a0, 0, none⟩), .pointer (some ⟨a1, 0, none⟩), .pointer (some ⟨a2, 0, none⟩)], .pointer (some ⟨C.cb, 0, none⟩), .int .i64 k, .int .u64 x] w (KpQ bc w o C sx num) := by
  by_cases h9 : x < 9218868437227405312
  · exact ksays_any h h9 a0 a1 a2 hnum
  · exact ksays_big h (by omega) hx a0 a1 a2
/-- an int seen as its 64 bits -/
theorem u64_nat (b : Int) : ∃ x : Nat, x < 18446744073709551616 ∧ IntKind.u64.wrap b = (x : Int) := by
  refine ⟨(b % 18446744073709551616).toNat, by omega, ?_⟩
  have h : IntKind.u64.wrap b = b % 18446744073709551616 := by
    simp [IntKind.wrap, IntKind.bits, IntKind.signed]
  rw [h]
  omega
theorem ckeeps_any (a : Option Addr) (nS cap : Nat) (os : Nat → OpD) (hs : ScriptAt w a nS os) (hg : Glob w) : Calls Tryz.prog 3 #[.slice a nS cap] w fun e w' => e = .returned (.bool true) ∧ Fr (fun _ => False) w w' := by
  have HSC : Hid (ScriptAt w a nS os) := hs
  have HG : Hid (Glob w) := hg
  obtain ⟨sz, HSZ⟩ : ∃ v, Hid (w.heap.size = v) := ⟨_, rfl⟩
  have GR := cground_any HSZ.out
  clear hs hg
  go_enter Tryz.func3, Tryz.ntmps3
  go_wp2_with fail
  refine GR.mono ?_
  rintro e w1 ⟨rfl, g1⟩
  obtain ⟨CM0, ST0, HB0⟩ := grd_cm HG.out g1 HSZ.out #[.pointer (some ⟨sz + 4, 0, none⟩), .pointer (some ⟨sz + 7, 0, none⟩), .pointer (some ⟨sz + 2, 0, none⟩)] 27
  have e1 : w1.heap.size = sz + 8 := g1.sz
  have NEW := cnew_any (w := w1.alloc (.cells #[.pointer (some ⟨sz + 4, 0, none⟩), .pointer (some ⟨sz + 7, 0, none⟩), .pointer (some ⟨sz + 2, 0, none⟩)] 27)) (sz + 4) (sz + 7)
  have e2 : (w1.alloc (.cells #[.pointer (some ⟨sz + 4, 0, none⟩), .pointer (some ⟨sz + 7, 0, none⟩), .pointer (some ⟨sz + 2, 0, none⟩)] 27)).heap.size = sz + 9 := by simp [e1]
  rw [e2] at NEW
  obtain ⟨W2, HW2⟩ : ∃ W, Hid ((((w1.alloc (.cells #[.pointer (some ⟨sz + 4, 0, none⟩), .pointer (some ⟨sz + 7, 0, none⟩), .pointer (some ⟨sz + 2, 0, none⟩)] 27)).alloc (.cells z143 102)).alloc (.cells #[.pointer (some ⟨sz + 4, 0, none⟩), .pointer (some ⟨sz + 7, 0, none⟩), .slice none 0 0, .slice (some ⟨sz + 9, 0, none⟩) 13 13, .int .i64 0, .slice none 0 0] 51)) = W) := ⟨_, Eq.refl _⟩
  rw [HW2.out] at CM0 ST0 HB0 NEW
  have HNEW : Hid (Calls Tryz.prog 7 #[.pointer (some ⟨sz + 4, 0, none⟩), .pointer (some ⟨sz + 7, 0, none⟩)] (w1.alloc (.cells #[.pointer (some ⟨sz + 4, 0, none⟩), .pointer (some ⟨sz + 7, 0, none⟩), .pointer (some ⟨sz + 2, 0, none⟩)] 27)) fun e' w' => e' = .returned (.pointer (some ⟨sz + 10, 0, none⟩)) ∧ w' = W2) := NEW
  have HK0 : Hid (KS (sz + 7) W2 (oG sz) (gC sz) (sz + 4) (.pointer (some ⟨sz + 2, 0, none⟩)) W2 (oG sz) (gA sz) (gC sz) cm00) := KS.refl CM0
  have HB : Hid (Has W2 (sz + 8) #[.pointer (some ⟨sz + 4, 0, none⟩), .pointer (some ⟨sz + 7, 0, none⟩), .pointer (some ⟨sz + 2, 0, none⟩)] 27) := HB0
  have HO8 : Hid (oG sz (sz + 8) = 0) := by
    show (if sz + 8 < sz then 1039 else if sz + 8 = sz + 4 then 1040 else if sz + 8 = sz + 9 then 1051 else if sz + 8 = sz + 10 then 1050 else if sz + 8 = sz + 1 ∨ sz + 8 = sz + 2 ∨ sz + 8 = sz + 3 ∨ sz + 8 = sz + 5 ∨ sz + 8 = sz + 6 ∨ sz + 8 = sz + 7 then 999 else 0) = 0
    rw [if_neg (by omega), if_neg (by omega), if_neg (by omega), if_neg (by omega), if_neg (by omega)]
  -- what was there at the start stays
  have HFR : Hid (∀ wr o1, Stp QM W2 (oG sz) wr o1 → Fr (fun _ => False) w wr) := fun wr o1 t => ST0.none.trans t.fr (fun j hj x => by
    have h39 : oG sz j = 1039 := by
      have := HSZ.out
      show (if j < sz then 1039 else _) = 1039
      rw [if_pos (by omega)]
    simp only [h39] at x
    unfold QM QI QS QC at x
    omega)
  clear CM0 ST0 HB0 NEW g1 e2 GR
  go_wp2_with fail
  refine HNEW.out.mono ?_
  rintro e w2 ⟨rfl, hw2⟩
  rw [hw2]
  clear hw2 w2 HNEW HW2 e1
  go_wp2_with fail
  go_loopg [5] nS (fun n v5 wr => ∃ (k : Nat) (o1 : Nat → Nat) (A1 : VL) (C1 : CC) (c1 : CmD), v5 = .int .i64 k ∧ k + n = nS ∧ Hid (KS (sz + 7) W2 (oG sz) (gC sz) (sz + 4) (.pointer (some ⟨sz + 2, 0, none⟩)) wr o1 A1 C1 c1))
  case atStart => exact ⟨0, oG sz, gA sz, gC sz, cm00, rfl, Nat.zero_add _, HK0⟩
  case round =>
    clear HK0
    obtain ⟨k, o1, A1, C1, cc, rfl, hkn, HKS⟩ := hrel
    have HF : Hid (Fr (fun _ => False) w wr) := HFR.out wr o1 HKS.out.S
    cases gk with
    | zero =>
      have hk : ¬ (k : Int) < (nS : Int) := by omega
      clear HKS HFR HSC HB HO8 HG
      go_wp2_with fail
      go_ret
      exact ⟨rfl, HF.out⟩
    | succ n =>
      have hk : (k : Int) < (nS : Int) := by omega
      by_cases hmax : (k : Int) < 4398046511104
      · obtain ⟨b, o, ha, hb, c0, c1, c2, c3, c4, c5⟩ := (HSC.out.fr HF.out).at_ k (by omega)
        obtain ⟨hfa, hfb⟩ := HSC.out.fit k (by omega)
        generalize os k = op at c0 c1 c2 c3 c4 c5 hfa hfb
        obtain ⟨okd, oa, ob, oc, oS, oT⟩ := op
        dsimp only at c0 c1 c2 c3 c4 c5 hfa hfb
        subst ha
        obtain ⟨W3, HW3⟩ : ∃ W, Hid (wr.alloc (.cells #[.int .i64 okd, .int .i64 oa, .int .i64 ob, .int .i64 oc, sv oS, sv oT] 32) = W) := ⟨_, Eq.refl _⟩
        have eW3 : wr.alloc (.cells #[.int .i64 okd, .int .i64 oa, .int .i64 ob, .int .i64 oc, sv oS, sv oT] 32) = W3 := HW3.out
        have F3 : Fr (fun _ => False) wr W3 := by rw [← HW3.out]; exact (Fr.refl _ _).alloc _
        have HK3 : Hid (KS (sz + 7) W2 (oG sz) (gC sz) (sz + 4) (.pointer (some ⟨sz + 2, 0, none⟩)) W3 o1 A1 C1 cc) := HKS.out.fresh F3
        have hB3 : Has W3 (sz + 8) #[.pointer (some ⟨sz + 4, 0, none⟩), .pointer (some ⟨sz + 7, 0, none⟩), .pointer (some ⟨sz + 2, 0, none⟩)] 27 := (keep0M HB.out HO8.out HK3.out.S).1
        have HB3 : Hid (Has W3 (sz + 8) #[.pointer (some ⟨sz + 4, 0, none⟩), .pointer (some ⟨sz + 7, 0, none⟩), .pointer (some ⟨sz + 2, 0, none⟩)] 27) := hB3
        have hO : Has W3 wr.heap.size #[.int .i64 okd, .int .i64 oa, .int .i64 ob, .int .i64 oc, sv oS, sv oT] 32 := by rw [← HW3.out]; exact Has.new _ _ _
        have d0 := hB3.cell 0
        have d1 := hB3.cell 1
        have d2 := hB3.cell 2
        have dl := hB3.lt
        simp only [List.getElem?_toArray, List.getElem?_cons_succ, List.getElem?_cons_zero] at d0 d1 d2
        obtain ⟨b6, hb6⟩ : ∃ b, wr.heap.size = b := ⟨_, rfl⟩
        rw [hb6] at hO
        have p0 := hO.cell 0
        have p1 := hO.cell 1
        have p2 := hO.cell 2
        have p4 := hO.cell 4
        have pl := hO.lt
        simp only [List.getElem?_toArray, List.getElem?_cons_succ, List.getElem?_cons_zero] at p0 p1 p2 p4
        clear hB3 hO F3
        by_cases hk1 : okd = 1
        · have KR := krun_any HK3.out.M oS hfa.1 hfa.2
          rw [HK3.out.cb] at KR
          have KR : Calls Tryz.prog 8 #[.pointer (some ⟨sz + 10, 0, none⟩), sv oS, .int .i64 oa] W3 (KpQ (sz + 7) W3 o1 C1 (sz + 4) (.pointer (some ⟨sz + 2, 0, none⟩))) := KR
          have q1' : (okd == 1) = true := by simp [hk1]
          clear hk1
          go_wp2_with fail
          refine KR.mono ?_
          rintro e w6 ⟨rfl, o6, A6, C6, c6, M6, q1, q2, S6⟩
          have HK6 : Hid (KS (sz + 7) W2 (oG sz) (gC sz) (sz + 4) (.pointer (some ⟨sz + 2, 0, none⟩)) w6 o6 A6 C6 c6) := ⟨M6, q1.trans HK3.out.cb, q2.trans HK3.out.gF, HK3.out.S.trans S6⟩
          clear KR M6 q1 q2 S6 HK3 HKS HF HB3 c0 c1 c2 c3 c4 c5 hb eW3 HW3 d0 d1 d2 dl
          go_wp2_with fail
          go_roundg n
          case measure => exact Nat.lt_succ_self _
          case rel => exact ⟨k + 1, o6, A6, C6, c6, by simp, by omega, HK6⟩
        have q1' : (okd == 1) = false := by rw [beq_eq_false_iff_ne]; exact hk1
        by_cases hk5 : okd = 5
        · have KR := kimg_any HK3.out.M oS hfa.2 (sz + 4) (sz + 2)
          rw [HK3.out.cb] at KR
          have KR : Calls Tryz.prog 9 #[.agg #[.pointer (some ⟨sz + 4, 0, none⟩), .pointer (some ⟨sz + 7, 0, none⟩), .pointer (some ⟨sz + 2, 0, none⟩)], .pointer (some ⟨sz + 10, 0, none⟩), sv oS, .int .i64 oa] W3 (KpQ (sz + 7) W3 o1 C1 (sz + 4) (.pointer (some ⟨sz + 2, 0, none⟩))) := KR
          have q5' : (okd == 5) = true := by simp [hk5]
          clear hk1 hk5
          go_wp2_with fail
          refine KR.mono ?_
          rintro e w6 ⟨rfl, o6, A6, C6, c6, M6, q1, q2, S6⟩
          have HK6 : Hid (KS (sz + 7) W2 (oG sz) (gC sz) (sz + 4) (.pointer (some ⟨sz + 2, 0, none⟩)) w6 o6 A6 C6 c6) := ⟨M6, q1.trans HK3.out.cb, q2.trans HK3.out.gF, HK3.out.S.trans S6⟩
          clear KR M6 q1 q2 S6 HK3 HKS HF HB3 c0 c1 c2 c3 c4 c5 hb eW3 HW3 d0 d1 d2 dl
          go_wp2_with fail
          go_roundg n
          case measure => exact Nat.lt_succ_self _
          case rel => exact ⟨k + 1, o6, A6, C6, c6, by simp, by omega, HK6⟩
        have q5' : (okd == 5) = false := by rw [beq_eq_false_iff_ne]; exact hk5
        by_cases hk6 : okd = 6
        · obtain ⟨xb, hxb, hxe⟩ := u64_nat ob
          have KR := ksay_any HK3.out.M oa hxb (sz + 4) (sz + 7) (sz + 2) rfl
          rw [HK3.out.cb] at KR
          have KR : Calls Tryz.prog 10 #[.agg #[.pointer (some ⟨sz + 4, 0, none⟩), .pointer (some ⟨sz + 7, 0, none⟩), .pointer (some ⟨sz + 2, 0, none⟩)], .pointer (some ⟨sz + 10, 0, none⟩), .int .i64 oa, .int .u64 xb] W3 (KpQ (sz + 7) W3 o1 C1 (sz + 4) (.pointer (some ⟨sz + 2, 0, none⟩))) := KR
          have q6' : (okd == 6) = true := by simp [hk6]
          clear hk1 hk5 hk6
          go_wp2_with fail
          refine KR.mono ?_
          rintro e w6 ⟨rfl, o6, A6, C6, c6, M6, q1, q2, S6⟩
          have HK6 : Hid (KS (sz + 7) W2 (oG sz) (gC sz) (sz + 4) (.pointer (some ⟨sz + 2, 0, none⟩)) w6 o6 A6 C6 c6) := ⟨M6, q1.trans HK3.out.cb, q2.trans HK3.out.gF, HK3.out.S.trans S6⟩
          clear KR M6 q1 q2 S6 HK3 HKS HF HB3 c0 c1 c2 c3 c4 c5 hb eW3 HW3 d0 d1 d2 dl
          go_wp2_with fail
          go_roundg n
          case measure => exact Nat.lt_succ_self _
          case rel => exact ⟨k + 1, o6, A6, C6, c6, by simp, by omega, HK6⟩
        have q6' : (okd == 6) = false := by rw [beq_eq_false_iff_ne]; exact hk6
        clear hk1 hk5 hk6
        go_wp2_with fail
        go_roundg n
        case measure => exact Nat.lt_succ_self _
        case rel => exact ⟨k + 1, o1, A1, C1, cc, by simp, by omega, HK3⟩
      · clear HKS HFR HSC HB HO8 HG
        go_wp2_with fail
        go_ret
        exact ⟨rfl, HF.out⟩
end
end Go.Proofs.Qxb6500574aGreatDoor
