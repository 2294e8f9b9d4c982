/-
  THE WALK of vm: compare.
-/
import Derived.Test.Qxb6500574aGreatDoorVStore
namespace Go.Proofs.Qxb6500574aGreatDoor
open Go Go.RowKit
set_option linter.unusedVariables false
set_option linter.unusedSimpArgs false

def CmPost (o : Option Bool) (w : World) (e' : Ending) (w' : World) : Prop :=
  match o with
  | some b => e' = .returned (.bool b) ∧ Fr (fun _ => False) w w'
  | none => Thrown (strV mCompare) w e' w' ∧ Fr (fun _ => False) w w'
section
variable {w w1 w2 : World} {A : VL} {m : VMD} {f e i h : Nat} {td : TabD}
set_option maxRecDepth 100000
set_option maxHeartbeats 600000
theorem less_eq : ∀ (a b : Bs), Op.bytesLess a b = bytesLt a b := by
  intro a
  induction a with
  | nil => intro b; cases b <;> rfl
  | cons x xs ih =>
    intro b
    cases b with
    | nil => rfl
    | cons y ys =>
      unfold Op.bytesLess bytesLt
      rw [ih]
      simp only [UInt8.lt_iff_toNat_lt]
      by_cases h1 : x.toNat < y.toNat
      · simp [h1]
      · rw [if_neg h1]
        by_cases h2 : y.toNat < x.toNat
        · have : (x == y) = false := by rw [beq_eq_false_iff_ne]; intro e; rw [e] at h2; omega
          simp [h1, h2, this]
        · have : x = y := UInt8.toNat_inj.1 (by omega)
          simp [this]
theorem less_tri : ∀ (a b : Bs), bytesLt b a = (!bytesLt a b && !(a == b)) := by
  intro a
  induction a with
  | nil => intro b; cases b <;> rfl
  | cons x xs ih =>
    intro b
    cases b with
    | nil => rfl
    | cons y ys =>
      have hc : (x :: xs == y :: ys) = ((x == y) && (xs == ys)) := rfl
      unfold bytesLt
      rw [hc]
      by_cases h1 : x.toNat < y.toNat
      · have : ¬ y.toNat < x.toNat := by omega
        simp [h1, this]
      · by_cases h2 : y.toNat < x.toNat
        · have : (x == y) = false := by rw [beq_eq_false_iff_ne]; intro e; rw [e] at h2; omega
          simp [h1, h2, this]
        · have : x = y := UInt8.toNat_inj.1 (by omega)
          subst this
          simp [ih ys]
theorem cmpNum (r : VRep w A m f e) {op : Nat} (n1 n2 : Nat) (s1 s2 : Bs) : Calls Tryz.prog 311 #[.pointer (some ⟨A.b, 0, none⟩), .int .i64 op, (⟨2, n1, s1⟩ : Vl).val, (⟨2, n2, s2⟩ : Vl).val] w (CmPost (some (cmpN op n1 n2)) w) := by
  obtain ⟨Q, HQ⟩ : ∃ Q : Ending → World → Prop, Hid (CmPost (some (cmpN op n1 n2)) w = Q) := ⟨_, rfl⟩
  rw [HQ.out]
  have c0 := r.cell0 0
  simp only [vmCells, List.getElem?_toArray, List.getElem?_cons_succ, List.getElem?_cons_zero] at c0
  have hb := r.bl
  clear r
  go_enter Tryz.func311, Tryz.ntmps311
  go_wp2_with fail
  refine wp_region_tail 9 (by kernel_rfl) (by kernel_rfl) (fun _ _ _ _ _ h => h) ?_
  simp only [List.take_succ_cons, List.take_zero, List.drop_succ_cons, List.drop_zero]
  repeat go_big_quiet_step (fail)
  refine wpQuiet_nil ?_
  go_wp2_with fail
  refine (cmp_any _ _ _ _).mono ?_
  rintro e' w' ⟨rfl, rfl⟩
  go_wp2_with fail
  rw [← HQ.out]
  exact ⟨rfl, (((Fr.refl _ _).alloc _).alloc _).drew⟩
theorem cmpEq (r : VRep w A m f e) {a b : Vl} (hn : ¬ (a.t = 2 ∧ b.t = 2)) : Calls Tryz.prog 311 #[.pointer (some ⟨A.b, 0, none⟩), .int .i64 1, a.val, b.val] w (CmPost (some (a.same b)) w) := by
  obtain ⟨Q, HQ⟩ : ∃ Q : Ending → World → Prop, Hid (CmPost (some (a.same b)) w = Q) := ⟨_, rfl⟩
  rw [HQ.out]
  obtain ⟨at', an, as'⟩ := a
  obtain ⟨bt, bn, bs⟩ := b
  dsimp only at hn
  clear r
  by_cases h2 : at' = 2
  · subst h2
    have hb : (bt == 2) = false := by rw [beq_eq_false_iff_ne]; exact fun e => hn ⟨rfl, e⟩
    clear hn
    go_enter Tryz.func311, Tryz.ntmps311
    go_wp2_with fail
    all_goals
      rw [← HQ.out]
      exact ⟨by first | (simp_all [Vl.same, Int.natCast_inj]; done) | (simp_all [Vl.same]; omega), ((Fr.refl _ _).alloc _).alloc _⟩
  · have hb : (at' == 2) = false := by rw [beq_eq_false_iff_ne]; exact h2
    clear hn h2
    go_enter Tryz.func311, Tryz.ntmps311
    go_wp2_with fail
    all_goals
      rw [← HQ.out]
      exact ⟨by first | (simp_all [Vl.same, Int.natCast_inj]; done) | (simp_all [Vl.same]; omega), ((Fr.refl _ _).alloc _).alloc _⟩
theorem cmpNe (r : VRep w A m f e) {a b : Vl} (hn : ¬ (a.t = 2 ∧ b.t = 2)) : Calls Tryz.prog 311 #[.pointer (some ⟨A.b, 0, none⟩), .int .i64 2, a.val, b.val] w (CmPost (some (!a.same b)) w) := by
  obtain ⟨Q, HQ⟩ : ∃ Q : Ending → World → Prop, Hid (CmPost (some (!a.same b)) w = Q) := ⟨_, rfl⟩
  rw [HQ.out]
  obtain ⟨at', an, as'⟩ := a
  obtain ⟨bt, bn, bs⟩ := b
  dsimp only at hn
  clear r
  by_cases h2 : at' = 2
  · subst h2
    have hb : (bt == 2) = false := by rw [beq_eq_false_iff_ne]; exact fun e => hn ⟨rfl, e⟩
    clear hn
    go_enter Tryz.func311, Tryz.ntmps311
    go_wp2_with fail
    all_goals
      rw [← HQ.out]
      exact ⟨by first | (simp_all [Vl.same, Int.natCast_inj]; done) | (simp_all [Vl.same]; omega), ((Fr.refl _ _).alloc _).alloc _⟩
  · have hb : (at' == 2) = false := by rw [beq_eq_false_iff_ne]; exact h2
    clear hn h2
    go_enter Tryz.func311, Tryz.ntmps311
    go_wp2_with fail
    all_goals
      rw [← HQ.out]
      exact ⟨by first | (simp_all [Vl.same, Int.natCast_inj]; done) | (simp_all [Vl.same]; omega), ((Fr.refl _ _).alloc _).alloc _⟩
theorem cmpBad (r : VRep w A m f e) {op : Nat} (ho : 3 ≤ op ∧ op ≤ 6) {a b : Vl} (hn : ¬ (a.t = 2 ∧ b.t = 2)) (hs : a.t ≠ 3 ∨ b.t ≠ 3) : Calls Tryz.prog 311 #[.pointer (some ⟨A.b, 0, none⟩), .int .i64 op, a.val, b.val] w (CmPost none w) := by
  obtain ⟨Q, HQ⟩ : ∃ Q : Ending → World → Prop, Hid (CmPost none w = Q) := ⟨_, rfl⟩
  rw [HQ.out]
  obtain ⟨at', an, as'⟩ := a
  obtain ⟨bt, bn, bs⟩ := b
  dsimp only at hn hs
  clear r
  have h1 : ((op : Int) == 1) = false := by rw [beq_eq_false_iff_ne]; omega
  have h2 : ((op : Int) == 2) = false := by rw [beq_eq_false_iff_ne]; omega
  have FIN : Hid (∀ e' w', Thrown (strV mCompare) ((w.alloc (.cells #[.int .i64 at', .int .u64 an, sv as'] 68)).alloc (.cells #[.int .i64 bt, .int .u64 bn, sv bs] 68)) e' w' ∧ Fr (fun _ => False) ((w.alloc (.cells #[.int .i64 at', .int .u64 an, sv as'] 68)).alloc (.cells #[.int .i64 bt, .int .u64 bn, sv bs] 68)) w' → Q e' w') := by
    rintro e' w' ⟨⟨b, x1, x2, x3⟩, x4⟩
    rw [← HQ.out]
    have x5 : Fr (fun _ => False) w ((w.alloc (.cells #[.int .i64 at', .int .u64 an, sv as'] 68)).alloc (.cells #[.int .i64 bt, .int .u64 bn, sv bs] 68)) := ((Fr.refl _ _).alloc _).alloc _
    exact ⟨⟨b, x1, x2, by have := x5.size; omega⟩, x5.trans x4 (fun _ _ x => x)⟩
  clear ho HQ
  by_cases a2 : at' = 2
  · subst a2
    have hb : (bt == 2) = false := by rw [beq_eq_false_iff_ne]; exact fun e => hn ⟨rfl, e⟩
    clear hn hs
    go_enter Tryz.func311, Tryz.ntmps311
    go_wp2_with fail
    refine (raise_any mCompare).mono ?_
    rintro e' w' hh
    obtain ⟨⟨b, rfl, x2, x3⟩, x4⟩ := hh
    exact ⟨rfl, FIN.out _ _ ⟨⟨b, rfl, x2, x3⟩, x4⟩⟩
  · have hb : (at' == 2) = false := by rw [beq_eq_false_iff_ne]; exact a2
    by_cases a3 : at' = 3
    · subst a3
      have hb3 : (bt != 3) = true := by simpa using hs
      clear hn a2 hs hb
      go_enter Tryz.func311, Tryz.ntmps311
      go_wp2_with fail
      refine (raise_any mCompare).mono ?_
      rintro e' w' hh
      obtain ⟨⟨b, rfl, x2, x3⟩, x4⟩ := hh
      exact ⟨rfl, FIN.out _ _ ⟨⟨b, rfl, x2, x3⟩, x4⟩⟩
    · have hb3 : (at' != 3) = true := by simpa using a3
      clear hn a2 hs a3
      go_enter Tryz.func311, Tryz.ntmps311
      go_wp2_with fail
      refine (raise_any mCompare).mono ?_
      rintro e' w' hh
      obtain ⟨⟨b, rfl, x2, x3⟩, x4⟩ := hh
      exact ⟨rfl, FIN.out _ _ ⟨⟨b, rfl, x2, x3⟩, x4⟩⟩
theorem cmpS3 (r : VRep w A m f e) (s1 s2 : Bs) (n1 n2 : Nat) : Calls Tryz.prog 311 #[.pointer (some ⟨A.b, 0, none⟩), .int .i64 3, (⟨3, n1, s1⟩ : Vl).val, (⟨3, n2, s2⟩ : Vl).val] w (CmPost (some (bytesLt s1 s2)) w) := by
  obtain ⟨Q, HQ⟩ : ∃ Q : Ending → World → Prop, Hid (CmPost (some (bytesLt s1 s2)) w = Q) := ⟨_, rfl⟩
  rw [HQ.out]
  go_enter Tryz.func311, Tryz.ntmps311
  go_wp2_with fail
  rw [← HQ.out, ← less_eq]
  exact ⟨rfl, ((Fr.refl _ _).alloc _).alloc _⟩
theorem cmpS4 (r : VRep w A m f e) (s1 s2 : Bs) (n1 n2 : Nat) : Calls Tryz.prog 311 #[.pointer (some ⟨A.b, 0, none⟩), .int .i64 4, (⟨3, n1, s1⟩ : Vl).val, (⟨3, n2, s2⟩ : Vl).val] w (CmPost (some (!bytesLt s2 s1)) w) := by
  obtain ⟨Q, HQ⟩ : ∃ Q : Ending → World → Prop, Hid (CmPost (some (!bytesLt s2 s1)) w = Q) := ⟨_, rfl⟩
  rw [HQ.out]
  go_enter Tryz.func311, Tryz.ntmps311
  go_wp2_with fail
  rw [← HQ.out]
  exact ⟨by rw [less_tri s1 s2, ← less_eq]; simp only [Bool.not_and, Bool.not_not]; rfl, ((Fr.refl _ _).alloc _).alloc _⟩
theorem cmpS5 (r : VRep w A m f e) (s1 s2 : Bs) (n1 n2 : Nat) : Calls Tryz.prog 311 #[.pointer (some ⟨A.b, 0, none⟩), .int .i64 5, (⟨3, n1, s1⟩ : Vl).val, (⟨3, n2, s2⟩ : Vl).val] w (CmPost (some (bytesLt s2 s1)) w) := by
  obtain ⟨Q, HQ⟩ : ∃ Q : Ending → World → Prop, Hid (CmPost (some (bytesLt s2 s1)) w = Q) := ⟨_, rfl⟩
  rw [HQ.out]
  go_enter Tryz.func311, Tryz.ntmps311
  go_wp2_with fail
  rw [← HQ.out]
  exact ⟨by rw [less_tri s1 s2, ← less_eq]; rfl, ((Fr.refl _ _).alloc _).alloc _⟩
theorem cmpS6 (r : VRep w A m f e) (s1 s2 : Bs) (n1 n2 : Nat) : Calls Tryz.prog 311 #[.pointer (some ⟨A.b, 0, none⟩), .int .i64 6, (⟨3, n1, s1⟩ : Vl).val, (⟨3, n2, s2⟩ : Vl).val] w (CmPost (some (!bytesLt s1 s2)) w) := by
  obtain ⟨Q, HQ⟩ : ∃ Q : Ending → World → Prop, Hid (CmPost (some (!bytesLt s1 s2)) w = Q) := ⟨_, rfl⟩
  rw [HQ.out]
  go_enter Tryz.func311, Tryz.ntmps311
  go_wp2_with fail
  rw [← HQ.out, ← less_eq]
  exact ⟨rfl, ((Fr.refl _ _).alloc _).alloc _⟩
theorem compare_any (r : VRep w A m f e) {op : Nat} (ho : 1 ≤ op ∧ op ≤ 6) (a b : Vl) : Calls Tryz.prog 311 #[.pointer (some ⟨A.b, 0, none⟩), .int .i64 op, a.val, b.val] w (CmPost (compareP op a b) w) := by
  unfold compareP
  by_cases hn : a.t = 2 ∧ b.t = 2
  · rw [if_pos hn]
    obtain ⟨at', an, as'⟩ := a
    obtain ⟨bt, bn, bs⟩ := b
    obtain ⟨rfl, rfl⟩ := hn
    exact cmpNum r an bn as' bs
  · rw [if_neg hn]
    by_cases h1 : op = 1
    · subst h1; exact cmpEq r hn
    · rw [if_neg (by omega)]
      by_cases h2 : op = 2
      · subst h2; exact cmpNe r hn
      · rw [if_neg (by omega)]
        by_cases hs : a.t ≠ 3 ∨ b.t ≠ 3
        · rw [if_pos hs]; exact cmpBad r (by omega) hn hs
        · rw [if_neg hs]
          obtain ⟨at', an, as'⟩ := a
          obtain ⟨bt, bn, bs⟩ := b
          obtain rfl : at' = 3 := Decidable.byContradiction fun x => hs (.inl x)
          obtain rfl : bt = 3 := Decidable.byContradiction fun x => hs (.inr x)
          have : op = 3 ∨ op = 4 ∨ op = 5 ∨ op = 6 := by omega
          rcases this with rfl | rfl | rfl | rfl
          · exact cmpS3 r as' bs an bn
          · exact cmpS4 r as' bs an bn
          · exact cmpS5 r as' bs an bn
          · exact cmpS6 r as' bs an bn
end
end Go.Proofs.Qxb6500574aGreatDoor
