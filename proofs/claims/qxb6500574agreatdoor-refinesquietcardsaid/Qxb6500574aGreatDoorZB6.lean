/-
  THE WALKS of vmm that the interpreter leans on: Text, Compare.
-/
import Derived.Test.Qxb6500574aGreatDoorZB5
import Derived.Test.Qxb6500574aGreatDoorZA9
import Derived.Test.Qxb6500574aGreatDoorVUtoa
import Derived.Test.Qxb6500574aGreatDoorVCmp
import Derived.Test.Qxb6500574aGreatDoorVText
namespace Go.Proofs.Qxb6500574aGreatDoor
open Go Go.RowKit
set_option linter.unusedVariables false
set_option linter.unusedSimpArgs false
def cmpR (o : Option Bool) : Value := match o with
  | some b => .tuple #[.bool b, .bool true]
  | none => .tuple #[.bool false, .bool false]
section
variable {w : World}
set_option maxRecDepth 100000
set_option maxHeartbeats 1000000
theorem mtext_m {bn : Nat} (v : Vl) (hv : wellV v = true) (hvn : v.n < 18446744073709551616) : Calls Tryz.prog 199 #[.pointer (some ⟨bn, 0, none⟩), v.val] w fun e w' => e = .returned (sv (textV v)) ∧ Fr (fun _ => False) w w' := by
  have HW := hid hv
  clear hv
  obtain ⟨vt, vn, vs⟩ := v
  dsimp only at hvn
  by_cases h0 : vt = 0
  · subst h0
    go_enter Tryz.func199, Tryz.ntmps199
    go_wp2
    go_ret
    exact ⟨rfl, (Fr.refl _ _).alloc _⟩
  by_cases h1 : vt = 1
  · subst h1
    by_cases hz : vn = 0
    · subst hz
      go_enter Tryz.func199, Tryz.ntmps199
      go_wp2
      go_ret
      exact ⟨rfl, (Fr.refl _ _).alloc _⟩
    · have hz2 : ((vn : Int) != 0) = true := by simpa using hz
      have HTX : Hid (textV ⟨1, vn, vs⟩ = [116, 114, 117, 101]) := by show _ = _; simp [textV, hz]
      clear h0 hz
      go_enter Tryz.func199, Tryz.ntmps199
      go_wp2
      go_ret
      exact ⟨by rw [HTX.out]; rfl, (Fr.refl _ _).alloc _⟩
  by_cases h2 : vt = 2
  · subst h2
    clear h0 h1
    have HF : Hid (∀ W, Calls Tryz.prog 259 #[.pointer (some ⟨bn, 0, none⟩), .int .u64 vn] W fun e w' => e = .returned (sv (fmtN vn)) ∧ Fr (fun _ => False) W w') := fun W => by
      have := format_m (w := W) (bn := bn) (a := vn) hvn
      rw [← fmt_ok hvn] at this
      exact this
    have HTX : Hid (textV ⟨2, vn, vs⟩ = fmtN vn) := rfl
    rw [HTX.out]
    generalize fmtN vn = FX at *
    clear HTX
    go_enter Tryz.func199, Tryz.ntmps199
    go_wp2_with fail
    refine (HF.out _).mono ?_
    rintro e' w1 ⟨rfl, F1⟩
    have HF1 := hid F1
    clear F1
    go_wp2
    go_ret
    exact ⟨rfl, ((Fr.refl _ _).alloc _).trans HF1.out (fun _ _ x => x)⟩
  by_cases h3 : vt = 3
  · subst h3
    go_enter Tryz.func199, Tryz.ntmps199
    go_wp2
    go_ret
    exact ⟨rfl, (Fr.refl _ _).alloc _⟩
  by_cases h6 : vt = 6
  · subst h6
    clear h0 h1 h2 h3
    have hv11 : vn ≤ 11 := by
      have := HW.out
      unfold wellV at this
      rw [if_neg (by show ¬ (6 : Int) = 3; decide)] at this
      split at this
      · cases this
      · simp at this
        exact this.2
    have HTX : Hid (textV ⟨6, vn, vs⟩ = [98, 117, 105, 108, 116, 105, 110, 58] ++ builtinN vn) := rfl
    rw [HTX.out]
    clear HTX
    have HB : Hid (∀ W, Calls Tryz.prog 74 #[.int .i64 vn] W fun e w' => e = .returned (sv (builtinN vn)) ∧ w' = W) := fun W => builtinName_any vn
    have hbl := builtin_len vn
    generalize builtinN vn = BN at *
    go_enter Tryz.func199, Tryz.ntmps199
    go_wp2_with fail
    refine (HB.out _).mono ?_
    rintro e' w' ⟨rfl, hw⟩
    rw [hw]
    go_wp2
    go_ret
    exact ⟨rfl, (Fr.refl _ _).alloc _⟩
  · have b0 : (vt == 0) = false := by rw [beq_eq_false_iff_ne]; exact h0
    have b1 : (vt == 1) = false := by rw [beq_eq_false_iff_ne]; exact h1
    have b2 : (vt == 2) = false := by rw [beq_eq_false_iff_ne]; exact h2
    have b3 : (vt == 3) = false := by rw [beq_eq_false_iff_ne]; exact h3
    have b6 : (vt == 6) = false := by rw [beq_eq_false_iff_ne]; exact h6
    have HTX : Hid (textV ⟨vt, vn, vs⟩ = typeN ⟨vt, vn, vs⟩ ++ [58] ++ utoaN vn) := by show _ = _; simp [textV, h0, h1, h2, h3, h6]
    rw [HTX.out]
    clear HTX h0 h1 h2 h3 h6
    have htl := type_len ⟨vt, vn, vs⟩
    have hul := utoa_len vn
    have HT : Hid (∀ W, Calls Tryz.prog 200 #[(⟨vt, vn, vs⟩ : Vl).val] W fun e w' => e = .returned (sv (typeN ⟨vt, vn, vs⟩)) ∧ Fr (fun _ => False) W w') := fun W => typeName_any _
    have HU : Hid (∀ W, Calls Tryz.prog 44 #[.int .u64 vn] W fun e w' => e = .returned (sv (utoaN vn)) ∧ Fr (fun _ => False) W w') := fun W => utoa_any vn hvn
    generalize typeN ⟨vt, vn, vs⟩ = TN at *
    generalize utoaN vn = UN at *
    go_enter Tryz.func199, Tryz.ntmps199
    go_wp2_with fail
    refine (HT.out _).mono ?_
    rintro e' w1 ⟨rfl, F1⟩
    have K1 : Has w1 w.heap.size #[.int .i64 vt, .int .u64 vn, sv vs] 68 := (Has.new _ _ _).fr F1 (fun x => x)
    have c1 := K1.cell 1
    simp only [List.getElem?_toArray, List.getElem?_cons_succ, List.getElem?_cons_zero] at c1
    have l1 := K1.lt
    have HF1 := hid F1
    clear F1 K1
    go_wp2_with fail
    refine (HU.out _).mono ?_
    rintro e' w2 ⟨rfl, F2⟩
    have HF2 := hid F2
    clear F2 c1 l1
    go_wp2
    go_ret
    exact ⟨rfl, (((Fr.refl _ _).alloc _).trans HF1.out (fun _ _ x => x)).trans HF2.out (fun _ _ x => x)⟩
theorem mcompare_m {bn op : Nat} (ho : 1 ≤ op ∧ op ≤ 6) (a b : Vl) (ha : a.t = 2 → a.n < 18446744073709551616) (hb : b.t = 2 → b.n < 18446744073709551616) : Calls Tryz.prog 203 #[.pointer (some ⟨bn, 0, none⟩), .int .i64 op, a.val, b.val] w fun e w' => e = .returned (cmpR (compareP op a b)) ∧ Fr (fun _ => False) w w' := by
  have F2 : ∀ x y, Fr (fun _ => False) w ((w.alloc x).alloc y) := fun x y => ((Fr.refl _ _).alloc _).alloc _
  have HF := hid F2
  clear F2
  unfold compareP
  obtain ⟨at', an, as'⟩ := a
  obtain ⟨bt, bn', bs⟩ := b
  by_cases hn : at' = 2 ∧ bt = 2
  · rw [if_pos hn]
    obtain ⟨rfl, rfl⟩ := hn
    have HC : Hid (∀ W, Calls Tryz.prog 122 #[.pointer (some ⟨bn, 0, none⟩), .int .i64 op, .int .u64 an, .int .u64 bn'] W fun e w' => e = .returned (.bool (cmpN op an bn')) ∧ w' = W) := fun W => by
      have := cmp_m (w := W) (bn := bn) (op := op) (a := an) (c := bn') ho.1 ho.2 (ha rfl) (hb rfl)
      rw [← cmp_ok (ha rfl) (hb rfl)] at this
      exact this
    clear ha hb
    dsimp only
    generalize cmpN op an bn' = z at *
    go_enter Tryz.func203, Tryz.ntmps203
    go_wp2_with fail
    refine (HC.out _).mono ?_
    rintro e' w1 ⟨rfl, hw⟩
    rw [hw]
    go_wp2
    go_ret2
    exact ⟨rfl, HF.out _ _⟩
  rw [if_neg hn]
  clear ha hb
  by_cases h1 : op = 1
  · subst h1
    rw [if_pos (by rfl)]
    have veq := fun W => val_eql ⟨at', an, as'⟩ ⟨bt, bn', bs⟩ W
    dsimp only at veq
    generalize Vl.same ⟨at', an, as'⟩ ⟨bt, bn', bs⟩ = z at *
    by_cases h2 : at' = 2
    · subst h2
      have hb : (bt == 2) = false := by rw [beq_eq_false_iff_ne]; exact fun e => hn ⟨rfl, e⟩
      clear hn
      go_enter Tryz.func203, Tryz.ntmps203
      go_wp2
      go_ret2
      exact ⟨rfl, HF.out _ _⟩
    · have hb : (at' == 2) = false := by rw [beq_eq_false_iff_ne]; exact h2
      clear hn h2
      go_enter Tryz.func203, Tryz.ntmps203
      go_wp2
      go_ret2
      exact ⟨rfl, HF.out _ _⟩
  rw [if_neg (by omega)]
  by_cases h2 : op = 2
  · subst h2
    rw [if_pos (by rfl)]
    have veq := fun W => val_neq ⟨at', an, as'⟩ ⟨bt, bn', bs⟩ W
    dsimp only at veq
    generalize Vl.same ⟨at', an, as'⟩ ⟨bt, bn', bs⟩ = z at *
    by_cases h2 : at' = 2
    · subst h2
      have hb : (bt == 2) = false := by rw [beq_eq_false_iff_ne]; exact fun e => hn ⟨rfl, e⟩
      clear hn
      go_enter Tryz.func203, Tryz.ntmps203
      go_wp2
      go_ret2
      exact ⟨rfl, HF.out _ _⟩
    · have hb : (at' == 2) = false := by rw [beq_eq_false_iff_ne]; exact h2
      clear hn h2
      go_enter Tryz.func203, Tryz.ntmps203
      go_wp2
      go_ret2
      exact ⟨rfl, HF.out _ _⟩
  rw [if_neg (by omega)]
  have e1 : ((op : Int) == 1) = false := by rw [beq_eq_false_iff_ne]; omega
  have e2 : ((op : Int) == 2) = false := by rw [beq_eq_false_iff_ne]; omega
  by_cases hs : at' ≠ 3 ∨ bt ≠ 3
  · rw [if_pos hs]
    by_cases a2 : at' = 2
    · subst a2
      have hb : (bt == 2) = false := by rw [beq_eq_false_iff_ne]; exact fun e => hn ⟨rfl, e⟩
      clear hn hs
      go_enter Tryz.func203, Tryz.ntmps203
      go_wp2
      go_ret2
      exact ⟨rfl, HF.out _ _⟩
    · have hb : (at' == 2) = false := by rw [beq_eq_false_iff_ne]; exact a2
      by_cases a3 : at' = 3
      · subst a3
        have hb3 : (bt != 3) = true := by simpa using hs
        clear hn a2 hs hb
        go_enter Tryz.func203, Tryz.ntmps203
        go_wp2
        go_ret2
        exact ⟨rfl, HF.out _ _⟩
      · have hb3 : (at' != 3) = true := by simpa using a3
        clear hn a2 hs a3
        go_enter Tryz.func203, Tryz.ntmps203
        go_wp2
        go_ret2
        exact ⟨rfl, HF.out _ _⟩
  rw [if_neg hs]
  obtain rfl : at' = 3 := Decidable.byContradiction fun x => hs (.inl x)
  obtain rfl : bt = 3 := Decidable.byContradiction fun x => hs (.inr x)
  have : op = 3 ∨ op = 4 ∨ op = 5 ∨ op = 6 := by omega
  clear hn hs e1 e2 h1 h2 ho
  rcases this with rfl | rfl | rfl | rfl
  · rw [if_pos (by rfl), ← less_eq]
    go_enter Tryz.func203, Tryz.ntmps203
    go_wp2
    go_ret2
    exact ⟨rfl, HF.out _ _⟩
  · rw [if_neg (by decide), if_pos (by rfl), less_tri as' bs, ← less_eq]
    simp only [Bool.not_and, Bool.not_not]
    go_enter Tryz.func203, Tryz.ntmps203
    go_wp2
    go_ret2
    exact ⟨rfl, HF.out _ _⟩
  · rw [if_neg (by decide), if_neg (by decide), if_pos (by rfl), less_tri as' bs, ← less_eq]
    go_enter Tryz.func203, Tryz.ntmps203
    go_wp2
    go_ret2
    exact ⟨rfl, HF.out _ _⟩
  · rw [if_neg (by decide), if_neg (by decide), if_neg (by decide), ← less_eq]
    go_enter Tryz.func203, Tryz.ntmps203
    go_wp2
    go_ret2
    exact ⟨rfl, HF.out _ _⟩
end
end Go.Proofs.Qxb6500574aGreatDoor
