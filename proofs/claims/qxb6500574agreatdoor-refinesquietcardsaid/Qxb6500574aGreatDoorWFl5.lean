/-
  THE WALK of the parser layer: flat.go: expr. (Written by tools/gen_flat.py.)
-/
import Derived.Test.Qxb6500574aGreatDoorWFl4
namespace Go.Proofs.Qxb6500574aGreatDoor
open Go Go.RowKit
set_option linter.unusedVariables false
set_option linter.unusedSimpArgs false
open Go.Lib
section
set_option maxRecDepth 100000
set_option maxHeartbeats 2000000
variable {w : World} {o : Nat → Nat} {sb : Nat} {nm tk : Value} {sn : Sl} {A N : List Nd} {P : Nat → Prop} {lo n : Nat} {v : Value}
theorem expr_lay (CE : ExC N n) (CL : LayC N n) (hN : N.length ≤ 3000) (h : TrA w P N lo n v) (hg : GoodE N n ∨ (N.getD n nd0).k = 17) (hP : ∀ k, P k → k < w.heap.size ∧ o k = 0) (F : FRep w o sb nm tk sn A) (hA : A.length = lo + 1) : Calls Tryz.prog 164 #[.pointer (some ⟨sb, 0, none⟩), v] w (LayQ w o sb nm tk A N lo n) := by
  have hin := h.in_
  cases h using TrA.on with
  | mk _ _ _ d kids mem ls hd hm hl hk hb hz hn sh =>
    have hkd : (N.getD n nd0).k = d.k := by rw [← hd]; rfl
    have hda : (N.getD n nd0).a = d.a := by rw [← hd]; rfl
    have hdb : (N.getD n nd0).b = d.b := by rw [← hd]; rfl
    have hdc : (N.getD n nd0).c = d.c := by rw [← hd]; rfl
    have hHP : Hid (∀ k, P k → k < w.heap.size ∧ o k = 0) := hP
    have HF : Hid (FRep w o sb nm tk sn A) := F
    have HA : Hid (A.length = lo + 1) := hA
    have HD : Hid ((N.getD n nd0).cut = d) := hd
    cases sh using Shp.on with
    | @lit k p b _ hk3 =>
      have hB : P b ∧ Has w b #[.int .i64 p, .int .i64 k] 392 := hm (b, #[.int .i64 p, .int .i64 k], 392) (by simp)
      have b0 := hB.2.cell 0
      have b1 := hB.2.cell 1
      have bl := hB.2.lt
      simp only [List.getElem?_toArray, List.getElem?_cons_succ, List.getElem?_cons_zero] at b0 b1
      have HB : Hid (P b ∧ Has w b #[.int .i64 p, .int .i64 k] 392) := hB
      have t0 := isLit
      clear hP F hA hd hm hl hk hb hz hg hkd hB
      go_enter Tryz.func164, Tryz.ntmps164
      go_wp2_with fail
      refine (posLit bl b0).mono ?_
      rintro e0 w0 ⟨rfl, hw⟩
      rw [hw]
      clear hw w0
      go_wp2_with fail
      refine ((FSt.start HF.out _).add (m := lo + 1) HA.out (by omega) ⟨k, 0, 0, 0, 0, 0, [], p⟩).mono ?_
      rintro e9 w9 ⟨rfl, o9, sn9, q1, q2⟩
      have HQ1 : Hid (FRep w9 o9 sb nm tk sn9 _) := q1
      have HQ2 : Hid (Stp QF w o w9 o9) := q2
      clear q1 q2
      go_wp2_with fail
      go_ret
      have q1 := HQ1.out
      have FI := LayQ.fin (n := lo) HA.out (Nat.le_refl _) HD.out (by rw [fulN_self, List.append_nil]; exact q1) HQ2.out
      exact FI
    | @num x p b _ hx =>
      have hB : P b ∧ Has w b #[.int .i64 p, .int .u64 x] 395 := hm (b, #[.int .i64 p, .int .u64 x], 395) (by simp)
      have b0 := hB.2.cell 0
      have b1 := hB.2.cell 1
      have bl := hB.2.lt
      simp only [List.getElem?_toArray, List.getElem?_cons_succ, List.getElem?_cons_zero] at b0 b1
      have HB : Hid (P b ∧ Has w b #[.int .i64 p, .int .u64 x] 395) := hB
      have t0 := @noLit 393 rfl
      have t1 := isNum
      clear hP F hA hd hm hl hk hb hz hg hkd hB
      go_enter Tryz.func164, Tryz.ntmps164
      go_wp2_with fail
      refine (posNum bl b0).mono ?_
      rintro e0 w0 ⟨rfl, hw⟩
      rw [hw]
      clear hw w0
      go_wp2_with fail
      refine ((FSt.start HF.out _).add (m := lo + 1) HA.out (by omega) ⟨15, 0, 0, 0, 0, x, [], p⟩).mono ?_
      rintro e9 w9 ⟨rfl, o9, sn9, q1, q2⟩
      have HQ1 : Hid (FRep w9 o9 sb nm tk sn9 _) := q1
      have HQ2 : Hid (Stp QF w o w9 o9) := q2
      clear q1 q2
      go_wp2_with fail
      go_ret
      have q1 := HQ1.out
      have FI := LayQ.fin (n := lo) HA.out (Nat.le_refl _) HD.out (by rw [fulN_self, List.append_nil]; exact q1) HQ2.out
      exact FI
    | @str s p b _ =>
      have hB : P b ∧ Has w b #[.int .i64 p, sv s] 383 := hm (b, #[.int .i64 p, sv s], 383) (by simp)
      have b0 := hB.2.cell 0
      have b1 := hB.2.cell 1
      have bl := hB.2.lt
      simp only [List.getElem?_toArray, List.getElem?_cons_succ, List.getElem?_cons_zero] at b0 b1
      have HB : Hid (P b ∧ Has w b #[.int .i64 p, sv s] 383) := hB
      have t0 := @noLit 382 rfl
      have t1 := @noNum 382 rfl
      have t2 := isStr
      clear hP F hA hd hm hl hk hb hz hg hkd hB
      go_enter Tryz.func164, Tryz.ntmps164
      go_wp2_with fail
      refine (posStr bl b0).mono ?_
      rintro e0 w0 ⟨rfl, hw⟩
      rw [hw]
      clear hw w0
      go_wp2_with fail
      refine ((FSt.start HF.out _).add (m := lo + 1) HA.out (by omega) ⟨16, 0, 0, 0, 0, 0, s, p⟩).mono ?_
      rintro e9 w9 ⟨rfl, o9, sn9, q1, q2⟩
      have HQ1 : Hid (FRep w9 o9 sb nm tk sn9 _) := q1
      have HQ2 : Hid (Stp QF w o w9 o9) := q2
      clear q1 q2
      go_wp2_with fail
      go_ret
      have q1 := HQ1.out
      have FI := LayQ.fin (n := lo) HA.out (Nat.le_refl _) HD.out (by rw [fulN_self, List.append_nil]; exact q1) HQ2.out
      exact FI
    | @name s p b _ =>
      have hB : P b ∧ Has w b #[.int .i64 p, sv s] 357 := hm (b, #[.int .i64 p, sv s], 357) (by simp)
      have b0 := hB.2.cell 0
      have b1 := hB.2.cell 1
      have bl := hB.2.lt
      simp only [List.getElem?_toArray, List.getElem?_cons_succ, List.getElem?_cons_zero] at b0 b1
      have HB : Hid (P b ∧ Has w b #[.int .i64 p, sv s] 357) := hB
      have t0 := @noLit 296 rfl
      have t1 := @noNum 296 rfl
      have t2 := @noStr 296 rfl
      have t3 := isName
      clear hP F hA hd hm hl hk hb hz hg hkd hB
      go_enter Tryz.func164, Tryz.ntmps164
      go_wp2_with fail
      refine (posName bl b0).mono ?_
      rintro e0 w0 ⟨rfl, hw⟩
      rw [hw]
      clear hw w0
      go_wp2_with fail
      refine ((FSt.start HF.out _).add (m := lo + 1) HA.out (by omega) ⟨17, 0, 0, 0, 0, 0, s, p⟩).mono ?_
      rintro e9 w9 ⟨rfl, o9, sn9, q1, q2⟩
      have HQ1 : Hid (FRep w9 o9 sb nm tk sn9 _) := q1
      have HQ2 : Hid (Stp QF w o w9 o9) := q2
      clear q1 q2
      go_wp2_with fail
      go_ret
      have q1 := HQ1.out
      have FI := LayQ.fin (n := lo) HA.out (Nat.le_refl _) HD.out (by rw [fulN_self, List.append_nil]; exact q1) HQ2.out
      exact FI
    | @index x y p b _ a c =>
      have hB : P b ∧ Has w b #[.int .i64 p, x, y] 385 := hm (b, #[.int .i64 p, x, y], 385) (by simp)
      have b0 := hB.2.cell 0
      have b1 := hB.2.cell 1
      have b2 := hB.2.cell 2
      have bl := hB.2.lt
      simp only [List.getElem?_toArray, List.getElem?_cons_succ, List.getElem?_cons_zero] at b0 b1 b2
      have HB : Hid (P b ∧ Has w b #[.int .i64 p, x, y] 385) := hB
      have hge := (hg.resolve_right (by rw [hkd]; simp)).bin (.inl hkd)
      rw [hda, hdb] at hge
      dsimp only at hge
      have TX0 : Hid (TrA w P N (lo) (a) (x)) := hk (lo, a, x) (by simp)
      have ZX0 : Hid ((N.getD (a) nd0).next = 0) := by
        rcases hz (lo, a, x) (by simp) with h | ⟨y, h1, h2⟩
        · exact h
        · simp at h1
      have GX0 : Hid (GoodE N (a) ∨ (N.getD (a) nd0).k = 17) := .inl (hge.1)
      have LX0 : (lo : Nat) < a := (TX0.out).lt
      have BX0 : (a : Nat) < c + 1 := (hb (lo, a, x) (by simp)).2
      have TX1 : Hid (TrA w P N (a) (c) (y)) := hk (a, c, y) (by simp)
      have ZX1 : Hid ((N.getD (c) nd0).next = 0) := by
        rcases hz (a, c, y) (by simp) with h | ⟨y, h1, h2⟩
        · exact h
        · simp at h1
      have GX1 : Hid (GoodE N (c) ∨ (N.getD (c) nd0).k = 17) := .inl (hge.2)
      have LX1 : (a : Nat) < c := (TX1.out).lt
      have BX1 : (c : Nat) < c + 1 := (hb (a, c, y) (by simp)).2
      have t0 := @noLit 297 rfl
      have t1 := @noNum 297 rfl
      have t2 := @noStr 297 rfl
      have t3 := @noName 297 rfl
      have t4 := isIndex
      clear hP F hA hd hm hl hk hb hz hg hkd hB
      clear hge
      go_enter Tryz.func164, Tryz.ntmps164
      go_wp2_with fail
      refine (posIndex bl b0).mono ?_
      rintro e0 w0 ⟨rfl, hw⟩
      rw [hw]
      clear hw w0
      go_wp2_with fail
      refine ((FSt.start HF.out _).ex CE TX0.out GX0.out hHP.out (by omega) HA.out ZX0.out).mono ?_
      rintro e1 w1 ⟨rfl, o1, fs1⟩
      have H1 : Hid (FSt w o sb nm tk w1 o1 (A ++ fulN N lo (a)) w.heap.size _) := fs1
      have nbl := fs1.b.lt
      have nbz := fs1.b.frozen
      have n0 := fs1.b.cell 0
      have n1 := fs1.b.cell 1
      have n2 := fs1.b.cell 2
      have n3 := fs1.b.cell 3
      have n4 := fs1.b.cell 4
      have n5 := fs1.b.cell 5
      have n6 := fs1.b.cell 6
      have n7 := fs1.b.cell 7
      have bH := fs1.has hHP.out HB.out
      have b0 := bH.cell 0
      have b1 := bH.cell 1
      have b2 := bH.cell 2
      have bl := bH.lt
      simp only [Array.setIfInBounds, List.set_toArray, List.getElem?_toArray, List.getElem?_cons_succ, List.getElem?_cons_zero, List.set_cons_succ, List.set_cons_zero, List.size_toArray, List.length_cons, List.length_nil] at n0 n1 n2 n3 n4 n5 n6 n7 b0 b1 b2
      clear fs1 bH
      go_wp2_with fail
      refine ((H1.out.put 1 _ rfl).ex CE TX1.out GX1.out hHP.out (by omega) (by rw [List.length_append, fulN_len, HA.out]; omega) ZX1.out).mono ?_
      rintro e2 w2 ⟨rfl, o2, fs2⟩
      rw [List.append_assoc, ful_app (by omega) (by omega)] at fs2
      have H2 : Hid (FSt w o sb nm tk w2 o2 (A ++ fulN N lo (c)) w.heap.size _) := fs2
      have nbl := fs2.b.lt
      have nbz := fs2.b.frozen
      have n0 := fs2.b.cell 0
      have n1 := fs2.b.cell 1
      have n2 := fs2.b.cell 2
      have n3 := fs2.b.cell 3
      have n4 := fs2.b.cell 4
      have n5 := fs2.b.cell 5
      have n6 := fs2.b.cell 6
      have n7 := fs2.b.cell 7
      have bH := fs2.has hHP.out HB.out
      have b0 := bH.cell 0
      have b1 := bH.cell 1
      have b2 := bH.cell 2
      have bl := bH.lt
      simp only [Array.setIfInBounds, List.set_toArray, List.getElem?_toArray, List.getElem?_cons_succ, List.getElem?_cons_zero, List.set_cons_succ, List.set_cons_zero, List.size_toArray, List.length_cons, List.length_nil] at n0 n1 n2 n3 n4 n5 n6 n7 b0 b1 b2
      clear fs2 bH
      go_wp2_with fail
      refine ((H2.out.put 2 _ rfl).add (m := c + 1) (by rw [List.length_append, fulN_len, HA.out]; omega) (by omega) ⟨18, a, c, 0, 0, 0, [], p⟩).mono ?_
      rintro e9 w9 ⟨rfl, o9, sn9, q1, q2⟩
      have HQ1 : Hid (FRep w9 o9 sb nm tk sn9 _) := q1
      have HQ2 : Hid (Stp QF w o w9 o9) := q2
      clear q1 q2
      go_wp2_with fail
      go_ret
      exact LayQ.fin HA.out (by omega) HD.out HQ1.out HQ2.out
    | @call x y p b _ a f hi ms m hs =>
      have hB : P b ∧ Has w b #[.int .i64 p, x, y] 388 := hm (b, #[.int .i64 p, x, y], 388) (by simp)
      have b0 := hB.2.cell 0
      have b1 := hB.2.cell 1
      have b2 := hB.2.cell 2
      have bl := hB.2.lt
      simp only [List.getElem?_toArray, List.getElem?_cons_succ, List.getElem?_cons_zero] at b0 b1 b2
      have HB : Hid (P b ∧ Has w b #[.int .i64 p, x, y] 388) := hB
      have hge := (hg.resolve_right (by rw [hkd]; simp)).call hkd
      rw [hda, hdb] at hge
      dsimp only at hge
      have HSL : Hid (SlM ms y m) := hs
      have TX0 : Hid (TrA w P N (lo) (a) (x)) := hk (lo, a, x) (by simp)
      have ZX0 : Hid ((N.getD (a) nd0).next = 0) := by
        rcases hz (lo, a, x) (by simp) with h | ⟨y, h1, h2⟩
        · exact h
        · simp at h1
          subst h1
          have := (hl (a, hi, f, ms) (by simp)).1.mem _ h2
          dsimp only at this
          omega
      have GX0 : Hid (GoodE N (a) ∨ (N.getD (a) nd0).k = 17) := .inl (hge.1)
      have LX0 : (lo : Nat) < a := (TX0.out).lt
      have BX0 : (a : Nat) < hi + 1 := (hb (lo, a, x) (by simp)).2
      have LS1 : Hid (Lst N (a) (hi) (f) ms) := (hl (a, hi, f, ms) (by simp)).1
      have TS1 : Hid (∀ x ∈ ms, TrA w P N x.1 x.2.1 x.2.2) := fun x hx => hk x (by first | exact hx | (simp [hx]; done) | (simp at hx ⊢; rcases hx with h | h <;> simp [h]))
      have OS1 : Hid (∀ x ∈ ms, Ok3 N x.2.1) := hge.2.mem LS1.out
      have MS1 : Hid (Mm w P m) := fun x hx => hm x (by first | exact List.mem_cons_of_mem _ hx | (simp at hx ⊢; simp [hx]))
      have LX1 : (a : Nat) ≤ hi := (LS1.out).le
      have BX1 : (hi : Nat) < hi + 1 := (hl (a, hi, f, ms) (by simp)).2.2
      have t0 := @noLit 291 rfl
      have t1 := @noNum 291 rfl
      have t2 := @noStr 291 rfl
      have t3 := @noName 291 rfl
      have t4 := @noIndex 291 rfl
      have t5 := isCall
      clear hP F hA hd hm hl hk hb hz hg hkd hB
      clear hge hs
      go_enter Tryz.func164, Tryz.ntmps164
      go_wp2_with fail
      refine (posCall bl b0).mono ?_
      rintro e0 w0 ⟨rfl, hw⟩
      rw [hw]
      clear hw w0
      go_wp2_with fail
      refine ((FSt.start HF.out _).ex CE TX0.out GX0.out hHP.out (by omega) HA.out ZX0.out).mono ?_
      rintro e1 w1 ⟨rfl, o1, fs1⟩
      have H1 : Hid (FSt w o sb nm tk w1 o1 (A ++ fulN N lo (a)) w.heap.size _) := fs1
      have nbl := fs1.b.lt
      have nbz := fs1.b.frozen
      have n0 := fs1.b.cell 0
      have n1 := fs1.b.cell 1
      have n2 := fs1.b.cell 2
      have n3 := fs1.b.cell 3
      have n4 := fs1.b.cell 4
      have n5 := fs1.b.cell 5
      have n6 := fs1.b.cell 6
      have n7 := fs1.b.cell 7
      have bH := fs1.has hHP.out HB.out
      have b0 := bH.cell 0
      have b1 := bH.cell 1
      have b2 := bH.cell 2
      have bl := bH.lt
      simp only [Array.setIfInBounds, List.set_toArray, List.getElem?_toArray, List.getElem?_cons_succ, List.getElem?_cons_zero, List.set_cons_succ, List.set_cons_zero, List.size_toArray, List.length_cons, List.length_nil] at n0 n1 n2 n3 n4 n5 n6 n7 b0 b1 b2
      clear fs1 bH
      go_wp2_with fail
      refine ((H1.out.put 1 _ rfl).ch CL hN LS1.out TS1.out OS1.out (by omega) (HSL.out) MS1.out hHP.out (by rw [List.length_append, fulN_len, HA.out]; omega)).mono ?_
      rintro e2 w2 ⟨rfl, o2, fs2⟩
      rw [List.append_assoc, ful_app (by omega) (by omega)] at fs2
      have H2 : Hid (FSt w o sb nm tk w2 o2 (A ++ fulN N lo (hi)) w.heap.size _) := fs2
      have nbl := fs2.b.lt
      have nbz := fs2.b.frozen
      have n0 := fs2.b.cell 0
      have n1 := fs2.b.cell 1
      have n2 := fs2.b.cell 2
      have n3 := fs2.b.cell 3
      have n4 := fs2.b.cell 4
      have n5 := fs2.b.cell 5
      have n6 := fs2.b.cell 6
      have n7 := fs2.b.cell 7
      have bH := fs2.has hHP.out HB.out
      have b0 := bH.cell 0
      have b1 := bH.cell 1
      have b2 := bH.cell 2
      have bl := bH.lt
      simp only [Array.setIfInBounds, List.set_toArray, List.getElem?_toArray, List.getElem?_cons_succ, List.getElem?_cons_zero, List.set_cons_succ, List.set_cons_zero, List.size_toArray, List.length_cons, List.length_nil] at n0 n1 n2 n3 n4 n5 n6 n7 b0 b1 b2
      clear fs2 bH
      go_wp2_with fail
      refine ((H2.out.put 2 _ rfl).add (m := hi + 1) (by rw [List.length_append, fulN_len, HA.out]; omega) (by omega) ⟨19, a, f, 0, 0, 0, [], p⟩).mono ?_
      rintro e9 w9 ⟨rfl, o9, sn9, q1, q2⟩
      have HQ1 : Hid (FRep w9 o9 sb nm tk sn9 _) := q1
      have HQ2 : Hid (Stp QF w o w9 o9) := q2
      clear q1 q2
      go_wp2_with fail
      go_ret
      exact LayQ.fin HA.out (by omega) HD.out HQ1.out HQ2.out
    | @func x y p b _ f g h1 hi num ms ns m m' hs hb' hn' =>
      have hB : P b ∧ Has w b #[.int .i64 p, .int .i64 num, x, y] 397 := hm (b, #[.int .i64 p, .int .i64 num, x, y], 397) (by simp)
      have b0 := hB.2.cell 0
      have b1 := hB.2.cell 1
      have b2 := hB.2.cell 2
      have b3 := hB.2.cell 3
      have bl := hB.2.lt
      simp only [List.getElem?_toArray, List.getElem?_cons_succ, List.getElem?_cons_zero] at b0 b1 b2 b3
      have HB : Hid (P b ∧ Has w b #[.int .i64 p, .int .i64 num, x, y] 397) := hB
      have hge := (hg.resolve_right (by rw [hkd]; simp)).func hkd
      rw [hda, hdb] at hge
      dsimp only at hge
      have HSL : Hid (SlM ms x m) := hs
      have HSB : Hid (SlM ns y m') := hb'
      have hnm : (num : Int) ≤ 12 := by omega
      have LS0 : Hid (Lst N (lo) (h1) (f) ms) := (hl (lo, h1, f, ms) (by simp)).1
      have TS0 : Hid (∀ x ∈ ms, TrA w P N x.1 x.2.1 x.2.2) := fun x hx => hk x (by first | exact hx | (simp [hx]; done) | (simp at hx ⊢; rcases hx with h | h <;> simp [h]))
      have OS0 : Hid (∀ x ∈ ms, Ok3 N x.2.1) := hge.1.mem LS0.out
      have MS0 : Hid (Mm w P m) := fun x hx => hm x (by first | exact List.mem_cons_of_mem _ hx | (simp at hx ⊢; simp [hx]))
      have LX0 : (lo : Nat) ≤ h1 := (LS0.out).le
      have BX0 : (h1 : Nat) < hi + 1 := (hl (lo, h1, f, ms) (by simp)).2.2
      have LS1 : Hid (Lst N (h1) (hi) (g) ns) := (hl (h1, hi, g, ns) (by simp)).1
      have TS1 : Hid (∀ x ∈ ns, TrA w P N x.1 x.2.1 x.2.2) := fun x hx => hk x (by first | exact hx | (simp [hx]; done) | (simp at hx ⊢; rcases hx with h | h <;> simp [h]))
      have OS1 : Hid (∀ x ∈ ns, Ok3 N x.2.1) := hge.2.mem LS1.out
      have MS1 : Hid (Mm w P m') := fun x hx => hm x (by first | exact List.mem_cons_of_mem _ hx | (simp at hx ⊢; simp [hx]))
      have LX1 : (h1 : Nat) ≤ hi := (LS1.out).le
      have BX1 : (hi : Nat) < hi + 1 := (hl (h1, hi, g, ns) (by simp)).2.2
      have t0 := @noLit 354 rfl
      have t1 := @noNum 354 rfl
      have t2 := @noStr 354 rfl
      have t3 := @noName 354 rfl
      have t4 := @noIndex 354 rfl
      have t5 := @noCall 354 rfl
      have t6 := isFunc
      clear hP F hA hd hm hl hk hb hz hg hkd hB
      clear hge hs hb'
      go_enter Tryz.func164, Tryz.ntmps164
      go_wp2_with fail
      refine (posFunc bl b0).mono ?_
      rintro e0 w0 ⟨rfl, hw⟩
      rw [hw]
      clear hw w0
      go_wp2_with fail
      refine ((FSt.start HF.out _).ch CL hN LS0.out TS0.out OS0.out (by omega) (HSL.out) MS0.out hHP.out HA.out).mono ?_
      rintro e1 w1 ⟨rfl, o1, fs1⟩
      have H1 : Hid (FSt w o sb nm tk w1 o1 (A ++ fulN N lo (h1)) w.heap.size _) := fs1
      have nbl := fs1.b.lt
      have nbz := fs1.b.frozen
      have n0 := fs1.b.cell 0
      have n1 := fs1.b.cell 1
      have n2 := fs1.b.cell 2
      have n3 := fs1.b.cell 3
      have n4 := fs1.b.cell 4
      have n5 := fs1.b.cell 5
      have n6 := fs1.b.cell 6
      have n7 := fs1.b.cell 7
      have bH := fs1.has hHP.out HB.out
      have b0 := bH.cell 0
      have b1 := bH.cell 1
      have b2 := bH.cell 2
      have b3 := bH.cell 3
      have bl := bH.lt
      simp only [Array.setIfInBounds, List.set_toArray, List.getElem?_toArray, List.getElem?_cons_succ, List.getElem?_cons_zero, List.set_cons_succ, List.set_cons_zero, List.size_toArray, List.length_cons, List.length_nil] at n0 n1 n2 n3 n4 n5 n6 n7 b0 b1 b2 b3
      clear fs1 bH
      go_wp2_with fail
      refine ((H1.out.put 1 _ rfl).ch CL hN LS1.out TS1.out OS1.out (by omega) (HSB.out) MS1.out hHP.out (by rw [List.length_append, fulN_len, HA.out]; omega)).mono ?_
      rintro e2 w2 ⟨rfl, o2, fs2⟩
      rw [List.append_assoc, ful_app (by omega) (by omega)] at fs2
      have H2 : Hid (FSt w o sb nm tk w2 o2 (A ++ fulN N lo (hi)) w.heap.size _) := fs2
      have nbl := fs2.b.lt
      have nbz := fs2.b.frozen
      have n0 := fs2.b.cell 0
      have n1 := fs2.b.cell 1
      have n2 := fs2.b.cell 2
      have n3 := fs2.b.cell 3
      have n4 := fs2.b.cell 4
      have n5 := fs2.b.cell 5
      have n6 := fs2.b.cell 6
      have n7 := fs2.b.cell 7
      have bH := fs2.has hHP.out HB.out
      have b0 := bH.cell 0
      have b1 := bH.cell 1
      have b2 := bH.cell 2
      have b3 := bH.cell 3
      have bl := bH.lt
      simp only [Array.setIfInBounds, List.set_toArray, List.getElem?_toArray, List.getElem?_cons_succ, List.getElem?_cons_zero, List.set_cons_succ, List.set_cons_zero, List.size_toArray, List.length_cons, List.length_nil] at n0 n1 n2 n3 n4 n5 n6 n7 b0 b1 b2 b3
      clear fs2 bH
      go_wp2_with fail
      refine ((H2.out.put 2 _ rfl).add (m := hi + 1) (by rw [List.length_append, fulN_len, HA.out]; omega) (by omega) ⟨20, f, g, 0, 0, num, [], p⟩).mono ?_
      rintro e9 w9 ⟨rfl, o9, sn9, q1, q2⟩
      have HQ1 : Hid (FRep w9 o9 sb nm tk sn9 _) := q1
      have HQ2 : Hid (Stp QF w o w9 o9) := q2
      clear q1 q2
      go_wp2_with fail
      go_ret
      exact LayQ.fin HA.out (by omega) HD.out HQ1.out HQ2.out
    | @table y p b _ f hi _ m hs =>
      have hB : P b ∧ Has w b #[.int .i64 p, y] 400 := hm (b, #[.int .i64 p, y], 400) (by simp)
      have b0 := hB.2.cell 0
      have b1 := hB.2.cell 1
      have bl := hB.2.lt
      simp only [List.getElem?_toArray, List.getElem?_cons_succ, List.getElem?_cons_zero] at b0 b1
      have HB : Hid (P b ∧ Has w b #[.int .i64 p, y] 400) := hB
      have hge := (hg.resolve_right (by rw [hkd]; simp)).table hkd
      rw [hda] at hge
      dsimp only at hge
      have HSL : Hid (SlM kids y m) := hs
      have LS0 : Hid (Lst N (lo) (hi) (f) kids) := (hl (lo, hi, f, kids) (by simp)).1
      have TS0 : Hid (∀ x ∈ kids, TrA w P N x.1 x.2.1 x.2.2) := fun x hx => hk x (by first | exact hx | (simp [hx]; done) | (simp at hx ⊢; rcases hx with h | h <;> simp [h]))
      have OS0 : Hid (∀ x ∈ kids, Ok3 N x.2.1) := hge.mem LS0.out
      have MS0 : Hid (Mm w P m) := fun x hx => hm x (by first | exact List.mem_cons_of_mem _ hx | (simp at hx ⊢; simp [hx]))
      have LX0 : (lo : Nat) ≤ hi := (LS0.out).le
      have BX0 : (hi : Nat) < hi + 1 := (hl (lo, hi, f, kids) (by simp)).2.2
      have t0 := @noLit 398 rfl
      have t1 := @noNum 398 rfl
      have t2 := @noStr 398 rfl
      have t3 := @noName 398 rfl
      have t4 := @noIndex 398 rfl
      have t5 := @noCall 398 rfl
      have t6 := @noFunc 398 rfl
      have t7 := isTable
      clear hP F hA hd hm hl hk hb hz hg hkd hB
      clear hge hs
      go_enter Tryz.func164, Tryz.ntmps164
      go_wp2_with fail
      refine (posTable bl b0).mono ?_
      rintro e0 w0 ⟨rfl, hw⟩
      rw [hw]
      clear hw w0
      go_wp2_with fail
      refine ((FSt.start HF.out _).ch CL hN LS0.out TS0.out OS0.out (by omega) (HSL.out) MS0.out hHP.out HA.out).mono ?_
      rintro e1 w1 ⟨rfl, o1, fs1⟩
      have H1 : Hid (FSt w o sb nm tk w1 o1 (A ++ fulN N lo (hi)) w.heap.size _) := fs1
      have nbl := fs1.b.lt
      have nbz := fs1.b.frozen
      have n0 := fs1.b.cell 0
      have n1 := fs1.b.cell 1
      have n2 := fs1.b.cell 2
      have n3 := fs1.b.cell 3
      have n4 := fs1.b.cell 4
      have n5 := fs1.b.cell 5
      have n6 := fs1.b.cell 6
      have n7 := fs1.b.cell 7
      have bH := fs1.has hHP.out HB.out
      have b0 := bH.cell 0
      have b1 := bH.cell 1
      have bl := bH.lt
      simp only [Array.setIfInBounds, List.set_toArray, List.getElem?_toArray, List.getElem?_cons_succ, List.getElem?_cons_zero, List.set_cons_succ, List.set_cons_zero, List.size_toArray, List.length_cons, List.length_nil] at n0 n1 n2 n3 n4 n5 n6 n7 b0 b1
      clear fs1 bH
      go_wp2_with fail
      refine ((H1.out.put 1 _ rfl).add (m := hi + 1) (by rw [List.length_append, fulN_len, HA.out]; omega) (by omega) ⟨21, f, 0, 0, 0, 0, [], p⟩).mono ?_
      rintro e9 w9 ⟨rfl, o9, sn9, q1, q2⟩
      have HQ1 : Hid (FRep w9 o9 sb nm tk sn9 _) := q1
      have HQ2 : Hid (Stp QF w o w9 o9) := q2
      clear q1 q2
      go_wp2_with fail
      go_ret
      exact LayQ.fin HA.out (by omega) HD.out HQ1.out HQ2.out
    | @binary k op x y p b _ a c hk3 ho =>
      have hB : P b ∧ Has w b #[.int .i64 p, .int .i64 k, .int .u64 op, x, y] 379 := hm (b, #[.int .i64 p, .int .i64 k, .int .u64 op, x, y], 379) (by simp)
      have b0 := hB.2.cell 0
      have b1 := hB.2.cell 1
      have b2 := hB.2.cell 2
      have b3 := hB.2.cell 3
      have b4 := hB.2.cell 4
      have bl := hB.2.lt
      simp only [List.getElem?_toArray, List.getElem?_cons_succ, List.getElem?_cons_zero] at b0 b1 b2 b3 b4
      have HB : Hid (P b ∧ Has w b #[.int .i64 p, .int .i64 k, .int .u64 op, x, y] 379) := hB
      have hge := (hg.resolve_right (by rw [hkd]; dsimp only; omega)).bin (by rw [hkd]; dsimp only; omega)
      rw [hda, hdb] at hge
      dsimp only at hge
      have TX0 : Hid (TrA w P N (lo) (a) (x)) := hk (lo, a, x) (by simp)
      have ZX0 : Hid ((N.getD (a) nd0).next = 0) := by
        rcases hz (lo, a, x) (by simp) with h | ⟨y, h1, h2⟩
        · exact h
        · simp at h1
      have GX0 : Hid (GoodE N (a) ∨ (N.getD (a) nd0).k = 17) := .inl (hge.1)
      have LX0 : (lo : Nat) < a := (TX0.out).lt
      have BX0 : (a : Nat) < c + 1 := (hb (lo, a, x) (by simp)).2
      have TX1 : Hid (TrA w P N (a) (c) (y)) := hk (a, c, y) (by simp)
      have ZX1 : Hid ((N.getD (c) nd0).next = 0) := by
        rcases hz (a, c, y) (by simp) with h | ⟨y, h1, h2⟩
        · exact h
        · simp at h1
      have GX1 : Hid (GoodE N (c) ∨ (N.getD (c) nd0).k = 17) := .inl (hge.2)
      have LX1 : (a : Nat) < c := (TX1.out).lt
      have BX1 : (c : Nat) < c + 1 := (hb (a, c, y) (by simp)).2
      have t0 := @noLit 377 rfl
      have t1 := @noNum 377 rfl
      have t2 := @noStr 377 rfl
      have t3 := @noName 377 rfl
      have t4 := @noIndex 377 rfl
      have t5 := @noCall 377 rfl
      have t6 := @noFunc 377 rfl
      have t7 := @noTable 377 rfl
      have t8 := isBinary
      clear hP F hA hd hm hl hk hb hz hg hkd hB
      clear hge hk3
      go_enter Tryz.func164, Tryz.ntmps164
      go_wp2_with fail
      refine (posBinary bl b0).mono ?_
      rintro e0 w0 ⟨rfl, hw⟩
      rw [hw]
      clear hw w0
      go_wp2_with fail
      refine ((FSt.start HF.out _).ex CE TX0.out GX0.out hHP.out (by omega) HA.out ZX0.out).mono ?_
      rintro e1 w1 ⟨rfl, o1, fs1⟩
      have H1 : Hid (FSt w o sb nm tk w1 o1 (A ++ fulN N lo (a)) w.heap.size _) := fs1
      have nbl := fs1.b.lt
      have nbz := fs1.b.frozen
      have n0 := fs1.b.cell 0
      have n1 := fs1.b.cell 1
      have n2 := fs1.b.cell 2
      have n3 := fs1.b.cell 3
      have n4 := fs1.b.cell 4
      have n5 := fs1.b.cell 5
      have n6 := fs1.b.cell 6
      have n7 := fs1.b.cell 7
      have bH := fs1.has hHP.out HB.out
      have b0 := bH.cell 0
      have b1 := bH.cell 1
      have b2 := bH.cell 2
      have b3 := bH.cell 3
      have b4 := bH.cell 4
      have bl := bH.lt
      simp only [Array.setIfInBounds, List.set_toArray, List.getElem?_toArray, List.getElem?_cons_succ, List.getElem?_cons_zero, List.set_cons_succ, List.set_cons_zero, List.size_toArray, List.length_cons, List.length_nil] at n0 n1 n2 n3 n4 n5 n6 n7 b0 b1 b2 b3 b4
      clear fs1 bH
      go_wp2_with fail
      refine ((H1.out.put 1 _ rfl).ex CE TX1.out GX1.out hHP.out (by omega) (by rw [List.length_append, fulN_len, HA.out]; omega) ZX1.out).mono ?_
      rintro e2 w2 ⟨rfl, o2, fs2⟩
      rw [List.append_assoc, ful_app (by omega) (by omega)] at fs2
      have H2 : Hid (FSt w o sb nm tk w2 o2 (A ++ fulN N lo (c)) w.heap.size _) := fs2
      have nbl := fs2.b.lt
      have nbz := fs2.b.frozen
      have n0 := fs2.b.cell 0
      have n1 := fs2.b.cell 1
      have n2 := fs2.b.cell 2
      have n3 := fs2.b.cell 3
      have n4 := fs2.b.cell 4
      have n5 := fs2.b.cell 5
      have n6 := fs2.b.cell 6
      have n7 := fs2.b.cell 7
      have bH := fs2.has hHP.out HB.out
      have b0 := bH.cell 0
      have b1 := bH.cell 1
      have b2 := bH.cell 2
      have b3 := bH.cell 3
      have b4 := bH.cell 4
      have bl := bH.lt
      simp only [Array.setIfInBounds, List.set_toArray, List.getElem?_toArray, List.getElem?_cons_succ, List.getElem?_cons_zero, List.set_cons_succ, List.set_cons_zero, List.size_toArray, List.length_cons, List.length_nil] at n0 n1 n2 n3 n4 n5 n6 n7 b0 b1 b2 b3 b4
      clear fs2 bH
      go_wp2_with fail
      refine ((H2.out.put 2 _ rfl).add (m := c + 1) (by rw [List.length_append, fulN_len, HA.out]; omega) (by omega) ⟨k, a, c, 0, 0, op, [], p⟩).mono ?_
      rintro e9 w9 ⟨rfl, o9, sn9, q1, q2⟩
      have HQ1 : Hid (FRep w9 o9 sb nm tk sn9 _) := q1
      have HQ2 : Hid (Stp QF w o w9 o9) := q2
      clear q1 q2
      go_wp2_with fail
      go_ret
      exact LayQ.fin HA.out (by omega) HD.out HQ1.out HQ2.out
    | @unary op x p b _ a ho =>
      have hB : P b ∧ Has w b #[.int .i64 p, .int .u64 op, x] 403 := hm (b, #[.int .i64 p, .int .u64 op, x], 403) (by simp)
      have b0 := hB.2.cell 0
      have b1 := hB.2.cell 1
      have b2 := hB.2.cell 2
      have bl := hB.2.lt
      simp only [List.getElem?_toArray, List.getElem?_cons_succ, List.getElem?_cons_zero] at b0 b1 b2
      have HB : Hid (P b ∧ Has w b #[.int .i64 p, .int .u64 op, x] 403) := hB
      have hge := (hg.resolve_right (by rw [hkd]; simp)).un hkd
      rw [hda] at hge
      dsimp only at hge
      have TX0 : Hid (TrA w P N (lo) (a) (x)) := hk (lo, a, x) (by simp)
      have ZX0 : Hid ((N.getD (a) nd0).next = 0) := by
        rcases hz (lo, a, x) (by simp) with h | ⟨y, h1, h2⟩
        · exact h
        · simp at h1
      have GX0 : Hid (GoodE N (a) ∨ (N.getD (a) nd0).k = 17) := .inl (hge)
      have LX0 : (lo : Nat) < a := (TX0.out).lt
      have BX0 : (a : Nat) < a + 1 := (hb (lo, a, x) (by simp)).2
      have t0 := @noLit 401 rfl
      have t1 := @noNum 401 rfl
      have t2 := @noStr 401 rfl
      have t3 := @noName 401 rfl
      have t4 := @noIndex 401 rfl
      have t5 := @noCall 401 rfl
      have t6 := @noFunc 401 rfl
      have t7 := @noTable 401 rfl
      have t8 := @noBinary 401 rfl
      have t9 := isUnary
      clear hP F hA hd hm hl hk hb hz hg hkd hB
      clear hge
      go_enter Tryz.func164, Tryz.ntmps164
      go_wp2_with fail
      refine (posUnary bl b0).mono ?_
      rintro e0 w0 ⟨rfl, hw⟩
      rw [hw]
      clear hw w0
      go_wp2_with fail
      refine ((FSt.start HF.out _).ex CE TX0.out GX0.out hHP.out (by omega) HA.out ZX0.out).mono ?_
      rintro e1 w1 ⟨rfl, o1, fs1⟩
      have H1 : Hid (FSt w o sb nm tk w1 o1 (A ++ fulN N lo (a)) w.heap.size _) := fs1
      have nbl := fs1.b.lt
      have nbz := fs1.b.frozen
      have n0 := fs1.b.cell 0
      have n1 := fs1.b.cell 1
      have n2 := fs1.b.cell 2
      have n3 := fs1.b.cell 3
      have n4 := fs1.b.cell 4
      have n5 := fs1.b.cell 5
      have n6 := fs1.b.cell 6
      have n7 := fs1.b.cell 7
      have bH := fs1.has hHP.out HB.out
      have b0 := bH.cell 0
      have b1 := bH.cell 1
      have b2 := bH.cell 2
      have bl := bH.lt
      simp only [Array.setIfInBounds, List.set_toArray, List.getElem?_toArray, List.getElem?_cons_succ, List.getElem?_cons_zero, List.set_cons_succ, List.set_cons_zero, List.size_toArray, List.length_cons, List.length_nil] at n0 n1 n2 n3 n4 n5 n6 n7 b0 b1 b2
      clear fs1 bH
      go_wp2_with fail
      refine ((H1.out.put 1 _ rfl).add (m := a + 1) (by rw [List.length_append, fulN_len, HA.out]; omega) (by omega) ⟨23, a, 0, 0, 0, op, [], p⟩).mono ?_
      rintro e9 w9 ⟨rfl, o9, sn9, q1, q2⟩
      have HQ1 : Hid (FRep w9 o9 sb nm tk sn9 _) := q1
      have HQ2 : Hid (Stp QF w o w9 o9) := q2
      clear q1 q2
      go_wp2_with fail
      go_ret
      exact LayQ.fin HA.out (by omega) HD.out HQ1.out HQ2.out
    | _ =>
      exfalso
      rcases hg with hg | hg
      · have := hg.k
        rw [hkd] at this
        simp at this
      · rw [hkd] at hg
        simp at hg
end
end Go.Proofs.Qxb6500574aGreatDoor
