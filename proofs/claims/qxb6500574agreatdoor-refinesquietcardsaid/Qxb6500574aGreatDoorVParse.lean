/-
  THE WALK of num: Parse.
-/
import Derived.Test.Qxb6500574aGreatDoorVMag
import Derived.Laws.Strings2
namespace Go.Proofs.Qxb6500574aGreatDoor
open Go Go.RowKit
set_option linter.unusedVariables false
set_option linter.unusedSimpArgs false
theorem run_drop1 (s : Bs) (h : 1 ≤ s.length) (w : World) : (Instr.sliceAt 9 (sv s) (some (.int .i64 1)) none none).run Tryz.prog w = .ok (sv (s.drop 1)) w := by
  have hu : Tryz.prog.underlying 9 = some .string := by kernel_rfl
  have hz : (⟨s.toArray⟩ : ByteArray).size = s.length := by simp [ByteArray.size]
  rw [run_sliceAt_string _ _ _ _ _ _ hu, run_slice_string_l _ _ _ hu .i64 1 (by omega) (by rw [hz]; omega), hz, ByteArray.extract_mk, show (1 : Int).toNat = 1 from rfl, List.take_of_length_le (by simp)]
section
variable {w : World} {s : Bs}
set_option maxRecDepth 100000
set_option maxHeartbeats 600000
def ParsePost (o : Option Nat) (w : World) (e : Ending) (w' : World) : Prop :=
  (match o with | some x => e = .returned (.tuple #[.int .u64 x, .int .i64 0]) | none => ∃ k : Nat, k ≠ 0 ∧ e = .returned (.tuple #[.int .u64 0, .int .i64 k])) ∧ Fr (fun _ => False) w w'
theorem parse_any (n : Value) (hs : s.length ≤ 100) : Calls Tryz.prog 95 #[n, sv s] w (ParsePost (parseN s) w) := by
  obtain ⟨Q, HQ⟩ : ∃ Q : Ending → World → Prop, Hid (ParsePost (parseN s) w = Q) := ⟨_, rfl⟩
  rw [HQ.out]
  unfold parseN at HQ
  obtain ⟨N, HN⟩ : ∃ N, Hid (s.length = N) := ⟨_, rfl⟩
  have hsz : (⟨s.toArray⟩ : ByteArray).size = N := by rw [← HN.out]; simp [ByteArray.size]
  have hsz2 : s.toArray.size = N := hsz
  rw [HN.out] at hs
  by_cases h24 : s.length > 24
  · rw [if_pos h24] at HQ
    have h24i : (24 : Int) < (N : Int) := by have := HN.out; omega
    go_enter Tryz.func95, Tryz.ntmps95
    go_wp2_with fail
    try go_ret2
    rw [← HQ.out]
    exact ⟨⟨1, by decide, rfl⟩, Fr.refl _ _⟩
  · rw [if_neg h24] at HQ
    have h24i : decide ((24 : Int) < (N : Int)) = false := by have := HN.out; simp; omega
    by_cases hnan : s = [110, 97, 110]
    · rw [if_pos hnan] at HQ
      subst hnan
      go_enter Tryz.func95, Tryz.ntmps95
      go_wp2_with fail
      try go_ret2
      rw [← HQ.out]
      exact ⟨rfl, Fr.refl _ _⟩
    · rw [if_neg hnan] at HQ
      have hnb : (s == [110, 97, 110]) = false := by simpa using hnan
      dsimp only at HQ
      clear hnan
      have hl24 : N ≤ 24 := by have := HN.out; omega
      clear h24
      have MAG : Hid (∀ (z : Bs), z.length ≤ 24 → ∀ W, Calls Tryz.prog 153 #[sv z] W fun e w' => (∃ x, magN z = some x ∧ e = .returned (.tuple #[.float .f64 x, .bool true]) ∧ Fr (fun _ => False) W w') ∨ (∃ y, magN z = none ∧ e = .returned (.tuple #[.float .f64 y, .bool false]) ∧ Fr (fun _ => False) W w')) := fun z hz W => (mag_any (w := W) hz).mono (fun e w' hh => by
        unfold MagPost at hh
        cases hm : magN z with
        | none => rw [hm] at hh; obtain ⟨⟨y, h1⟩, h2⟩ := hh; exact .inr ⟨y, rfl, h1, h2⟩
        | some x => rw [hm] at hh; exact .inl ⟨x, rfl, hh.1, hh.2⟩)
      by_cases h0 : N = 0
      · have hs0 : s = [] := List.length_eq_zero_iff.1 (by rw [HN.out]; exact h0)
        subst hs0
        have HQ2 : Hid (ParsePost (Option.map (fun f => f) (magN [])) w = Q) := HQ
        clear HQ
        have HQ := HQ2
        clear HQ2
        clear hnb
        obtain rfl : N = 0 := h0
        go_enter Tryz.func95, Tryz.ntmps95
        go_wp2_with fail
        refine (MAG.out [] (by simp) _).mono ?_
        rintro e' w1 (⟨x, hm, rfl, f1⟩ | ⟨y, hm, rfl, f1⟩)
        · rw [hm] at HQ
          go_wp2_with fail
          rw [run_bits]
          go_wp2_with fail
          try go_ret2
          rw [← HQ.out]
          exact ⟨rfl, f1⟩
        · rw [hm] at HQ
          go_wp2_with fail
          try go_ret2
          rw [← HQ.out]
          exact ⟨⟨2, by decide, rfl⟩, f1⟩
      · obtain ⟨c, hc⟩ : ∃ c, s[0]? = some c := ⟨s[0]'(by rw [HN.out]; omega), by simp⟩
        have hh : s.head? = some c := by rw [List.head?_eq_getElem?]; exact hc
        rw [hh] at HQ
        have hix := run_index_str s 0 0 rfl hc
        have hsl := run_drop1 s (by rw [HN.out]; omega)
        have hpos : decide ((0 : Int) < (N : Int)) = true := by simp; omega
        have hpos2 : (0 : Int) < (N : Int) := by omega
        clear hh hc h0
        by_cases h45 : c = 45
        · rw [show ((some c : Option UInt8) == some 45) = true by rw [h45]; rfl] at HQ
          simp only [if_true] at HQ
          have hc45 : c.toNat = 45 := by rw [h45]; rfl
          rw [hc45] at hix
          rw [show (((45 : Nat)) : Int) = 45 from rfl] at hix
          clear h45 hc45
          have hdl : (s.drop 1).length ≤ 24 := by rw [List.length_drop, HN.out]; omega
          generalize s.drop 1 = z at *
          go_enter Tryz.func95, Tryz.ntmps95
          go_wp2_with fail
          refine (MAG.out z hdl _).mono ?_
          rintro e' w1 (⟨x, hm, rfl, f1⟩ | ⟨y, hm, rfl, f1⟩)
          · rw [hm] at HQ
            go_wp2_with fail
            rw [run_negF]
            go_wp2_with fail
            rw [run_bits]
            go_wp2_with fail
            try go_ret2
            rw [← HQ.out]
            exact ⟨rfl, f1⟩
          · rw [hm] at HQ
            go_wp2_with fail
            try go_ret2
            rw [← HQ.out]
            exact ⟨⟨2, by decide, rfl⟩, f1⟩
        · have e45 : ((some c : Option UInt8) == some 45) = false := by simpa using h45
          rw [e45] at HQ
          simp only [Bool.false_eq_true, if_false, Option.map_id'] at HQ
          have b45 : ((c.toNat : Int) == 45) = false := by
            have : c.toNat ≠ 45 := fun e => h45 (UInt8.toNat_inj.1 e)
            simp; omega
          obtain ⟨cn, HCN⟩ : ∃ cn, Hid (c.toNat = cn) := ⟨_, rfl⟩
          rw [HCN.out] at hix b45
          have hcl : cn < 256 := by rw [← HCN.out]; exact c.toNat_lt
          clear h45 e45
          go_enter Tryz.func95, Tryz.ntmps95
          go_wp2_with fail
          refine (MAG.out s (by rw [HN.out]; exact hl24) _).mono ?_
          rintro e' w1 (⟨x, hm, rfl, f1⟩ | ⟨y, hm, rfl, f1⟩)
          · rw [hm] at HQ
            go_wp2_with fail
            rw [run_bits]
            go_wp2_with fail
            try go_ret2
            rw [← HQ.out]
            exact ⟨rfl, f1⟩
          · rw [hm] at HQ
            go_wp2_with fail
            try go_ret2
            rw [← HQ.out]
            exact ⟨⟨2, by decide, rfl⟩, f1⟩
end
end Go.Proofs.Qxb6500574aGreatDoor
