/-
  THE WALKS of colaw: CarriesUpTo, Carries.
-/
import Derived.Test.Qxb6500577aGreatVScript
import Derived.Test.Qxb6500577aGreatVCarr2
namespace Go.Proofs.Qxb6500577aGreat
open Go Go.RowKit
set_option linter.unusedVariables false
set_option linter.unusedSimpArgs false
section
variable {w : World}
set_option maxRecDepth 100000
set_option maxHeartbeats 1000000
theorem carriesUp_any (a : Option Addr) (nS cap : Nat) (os : Nat → OpD) (hs : ScriptAt w a nS os) : Calls Tryz.prog 6 #[.slice a nS cap] w fun e w' => e = .returned (.int .i64 (-1)) ∧ Fr (fun _ => False) w w' := by
  have HSC : Hid (ScriptAt w a nS os) := hs
  clear hs
  go_enter Tryz.func6, Tryz.ntmps6
  go_wp2_with fail
  refine ground_any.mono ?_
  rintro e w1 ⟨A1, rfl, B1⟩
  go_wp2_with fail
  refine (coNew_any _).mono ?_
  rintro e w2 ⟨rfl, rfl⟩
  obtain ⟨W2, HW2⟩ : ∃ W, Hid (w1.alloc (.cells #[.pointer (some ⟨A1.b, 0, none⟩), .int .i64 0, .int .i64 0] 37) = W) := ⟨_, Eq.refl _⟩
  rw [HW2.out]
  obtain ⟨bc, HBC⟩ : ∃ b, Hid (w1.heap.size = b) := ⟨_, rfl⟩
  rw [HBC.out]
  have f2 : Fr (fun _ => False) w1 W2 := by rw [← HW2.out]; exact (Fr.refl _ _).alloc _
  have I2 : Idle bc W2 A1 := ⟨⟨vm0, 0, 21, 0, B1.rep.fresh f2, by rw [← HW2.out, ← HBC.out]; exact Has.new _ _ _⟩, B1.rep.own _ (by rw [← HBC.out]; exact Nat.le_refl _)⟩
  have F2 : Fr (fun _ => False) w W2 := B1.fr.trans f2 (fun _ _ x => x)
  have HOLD : Hid (∀ k, k < w.heap.size → A1.o k = 0 ∧ k ≠ bc) := fun k hk => ⟨B1.old k hk, by have := B1.fr.size; have := HBC.out; omega⟩
  have HFR : Hid (∀ wr Ak, CSt bc W2 A1 wr Ak → Fr (fun _ => False) w wr) := fun wr Ak c => F2.trans c.fr (fun j hj x => by
    obtain ⟨h1, h2⟩ := HOLD.out j hj
    rcases x with x | x
    · exact x h1
    · exact h2 x)
  have HI2 : Hid (Idle bc W2 A1) := I2
  clear I2 F2 f2 B1 HW2 HBC
  go_wp2_with fail
  go_loopg [5] nS (fun n v5 wr => ∃ (k : Nat) (Ak : VL), v5 = .int .i64 k ∧ k + n = nS ∧ Hid (Idle bc wr Ak) ∧ Hid (CSt bc W2 A1 wr Ak))
  case atStart => exact ⟨0, A1, rfl, Nat.zero_add _, HI2.out, CSt.refl _ _⟩
  case round =>
    clear HI2
    obtain ⟨k, Ak, rfl, hkn, HI, HC⟩ := hrel
    have HF : Hid (Fr (fun _ => False) w wr) := HFR.out wr Ak HC.out
    cases gk with
    | zero =>
      have hk : ¬ (k : Int) < (nS : Int) := by omega
      clear HI HC HFR HOLD HSC
      go_wp2_with fail
      go_ret
      exact ⟨rfl, HF.out⟩
    | succ n =>
      have hk : (k : Int) < (nS : Int) := by omega
      by_cases hmax : (k : Int) < 4398046511104
      · obtain ⟨b, o, ha, hb, c0, c1, c2, c3, c4, c5⟩ := (HSC.out.fr HF.out).at_ k (by omega)
        obtain ⟨hfa, _⟩ := HSC.out.fit k (by omega)
        generalize os k = op at c0 c1 c2 c3 c4 c5 hfa
        obtain ⟨okd, oa, ob, oc, oS, oT⟩ := op
        dsimp only at c0 c1 c2 c3 c4 c5 hfa
        subst ha
        by_cases hkd : okd = 5
        · subst hkd
          by_cases hl : oS.length ≤ 40
          · have hl' : (oS.length : Int) ≤ 40 := by omega
            by_cases hc0 : oc = 0
            · subst hc0
              have KR := carried_any HI.out oS oT hl 5 oa ob 0 hfa.1 hfa.2
              go_wp2_with fail
              refine KR.mono ?_
              rintro e w6 ⟨rfl, A6, I6, C6⟩
              have HI6 : Hid (Idle bc w6 A6) := I6
              have HC6 : Hid (CSt bc W2 A1 w6 A6) := HC.out.trans C6
              clear KR I6 C6 HI HC HF c0 c1 c2 c3 c4 c5 hb
              go_wp2_with fail
              go_roundg n
              case measure => exact Nat.lt_succ_self _
              case rel => exact ⟨k + 1, A6, by simp, by omega, HI6.out, HC6.out⟩
            · have hc0' : (oc != 0) = true := by rw [bne_iff_ne]; exact hc0
              have KR := carried2_any HI.out oS oT hl 5 oa ob oc hfa.1 hfa.2
              go_wp2_with fail
              refine KR.mono ?_
              rintro e w6 ⟨rfl, A6, I6, C6⟩
              have HI6 : Hid (Idle bc w6 A6) := I6
              have HC6 : Hid (CSt bc W2 A1 w6 A6) := HC.out.trans C6
              clear KR I6 C6 HI HC HF c0 c1 c2 c3 c4 c5 hb
              go_wp2_with fail
              go_roundg n
              case measure => exact Nat.lt_succ_self _
              case rel => exact ⟨k + 1, A6, by simp, by omega, HI6.out, HC6.out⟩
          · have hl' : ¬ (oS.length : Int) ≤ 40 := by omega
            go_wp2_with fail
            go_roundg n
            case measure => exact Nat.lt_succ_self _
            case rel => exact ⟨k + 1, Ak, by simp, by omega, HI.out, HC.out⟩
        · have hkd' : (okd == 5) = false := by rw [beq_eq_false_iff_ne]; exact hkd
          go_wp2_with fail
          go_roundg n
          case measure => exact Nat.lt_succ_self _
          case rel => exact ⟨k + 1, Ak, by simp, by omega, HI.out, HC.out⟩
      · clear HI HC HFR HOLD HSC
        go_wp2_with fail
        go_ret
        exact ⟨rfl, HF.out⟩
theorem carries_any (a : Option Addr) (nS cap : Nat) (os : Nat → OpD) (w : World) (hs : ScriptAt w a nS os) :
    Calls Tryz.prog 4 #[.slice a nS cap] w fun e w' => e = .returned (.bool true) ∧ Fr (fun _ => False) w w' := by
  have H : Hid (Calls Tryz.prog 6 #[.slice a nS cap] w fun e w' => e = .returned (.int .i64 (-1)) ∧ Fr (fun _ => False) w w') := carriesUp_any a nS cap os hs
  clear hs
  go_enter Tryz.func4, Tryz.ntmps4
  go_wp2_with fail
  refine H.out.mono ?_
  rintro e w1 ⟨rfl, hF⟩
  have HF : Hid (Fr (fun _ => False) w w1) := hF
  clear hF H
  go_wp2
  go_ret
  exact ⟨rfl, HF.out⟩
end
end Go.Proofs.Qxb6500577aGreat
