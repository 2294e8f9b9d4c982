/-
  THE WALKS of compm: bin, un.
-/
import Derived.Test.Qxb6500574aGreatDoorZC11
import Derived.Test.Qxb6500574aGreatDoorReg7
namespace Go.Proofs.Qxb6500574aGreatDoor
open Go Go.RowKit
set_option linter.unusedVariables false
set_option linter.unusedSimpArgs false
section
variable {w W W1 : World} {A A1 A2 : RnP} {N : List Nd} {root : Nat} {M : MD}
theorem text40 {v : Vl} (h : wellV v = true) (hn : v.t = 2 → v.n < 18446744073709551616) (z : v.t = 3 ∨ v.t = 2) : (textV v).length ≤ 40 := by
  obtain ⟨t, n, s⟩ := v
  dsimp only at z hn
  rcases z with rfl | rfl
  · unfold wellV at h
    simp at h
    show s.length ≤ 40
    exact h.2
  · have := fmt_len n (hn rfl)
    show (fmtN n).length ≤ 40
    omega
def binC (M : MD) (R : Option Bool) : MD := match R with
  | none => M.raise mCompare
  | some c => M.push [boolV c]
theorem RB.pushN (B : RB w A N root W A1 M) (hl : M.th.vals.length ≤ 1000000) (x : Nat) : Calls Tryz.prog 124 #[.pointer (some ⟨A.br, 0, none⟩), .agg #[.int .i64 2, .int .u64 x, sv []]] W (RBQ w A N root W A1 (M.push [numV x])) := B.push hl (numV x)
set_option maxRecDepth 100000
set_option maxHeartbeats 1000000
theorem bin_m (B : RB w A N root W A1 M) (K : ThrOk M) {op : Nat} (ho : (1 ≤ op ∧ op ≤ 6) ∨ (11 ≤ op ∧ op ≤ 16) ∨ op = 20) {a b : Vl} (ha : wellV a = true) (hb : wellV b = true) (ha2 : a.t = 2 → a.n < 18446744073709551616) (hb2 : b.t = 2 → b.n < 18446744073709551616) {op' : Int} (hop : op' = op) :
    Calls Tryz.prog 129 #[.pointer (some ⟨A.br, 0, none⟩), .int .i64 op', a.val, b.val] W (PQm w A N root (M.bin op a b)) := by
  subst hop
  obtain ⟨Q, HQ⟩ : ∃ Q : Ending → World → Prop, Hid (PQm w A N root (M.bin op a b) = Q) := ⟨_, rfl⟩
  rw [HQ.out]
  obtain ⟨c0, c1, l0⟩ := B.c0
  have F2 : Hid (∀ x y, Fr (fun _ => False) W ((W.alloc x).alloc y)) := fun x y => ((Fr.refl _ _).alloc _).alloc _
  have RA : Hid (∀ (s : Bs) W2, s.length ≤ 40 → Fr (fun _ => False) W W2 → Calls Tryz.prog 121 #[.pointer (some ⟨A.br, 0, none⟩), sv s] W2 (PQm w A N root (M.raise s))) := fun s W2 hs f => (B.fresh f).raise K s hs
  have HVL : Hid (M.th.vals.length ≤ 1000000) := by have := K.vl; exact Nat.le_trans this (by omega)
  have HB := hid B
  have bda := well_bounds ha ha2
  have bdb := well_bounds hb hb2
  have TA : Hid (∀ W2, Calls Tryz.prog 199 #[.pointer (some ⟨A.bn, 0, none⟩), a.val] W2 fun e w' => e = .returned (sv (textV a)) ∧ Fr (fun _ => False) W2 w') := fun W2 => mtext_m a ha bda.2.2
  have TB : Hid (∀ W2, Calls Tryz.prog 199 #[.pointer (some ⟨A.bn, 0, none⟩), b.val] W2 fun e w' => e = .returned (sv (textV b)) ∧ Fr (fun _ => False) W2 w') := fun W2 => mtext_m b hb bdb.2.2
  have CM : Hid (∀ W2, 11 ≤ op → op ≤ 16 → Calls Tryz.prog 203 #[.pointer (some ⟨A.bn, 0, none⟩), .int .i64 ((op : Int) - 10), a.val, b.val] W2 fun e w' => e = .returned (cmpR (compareP ((op - 10 : Nat) : Int) a b)) ∧ Fr (fun _ => False) W2 w') := fun W2 h1 h2 => by
    have := mcompare_m (w := W2) (bn := A.bn) (op := op - 10) (by omega) a b ha2 hb2
    rw [show (((op - 10 : Nat)) : Int) = (op : Int) - 10 by omega] at this ⊢
    exact this
  have AR : Hid (∀ W2, a.t = 2 → b.t = 2 → 1 ≤ op → op ≤ 6 → Calls Tryz.prog 123 #[.pointer (some ⟨A.bn, 0, none⟩), .int .i64 op, .int .u64 a.n, .int .u64 b.n] W2 fun e w' => e = .returned (.int .u64 (arithN op a.n b.n)) ∧ w' = W2) := fun W2 h1 h2 h3 h4 => arith_m h3 h4 (ha2 h1) (hb2 h2)
  have TLA : Hid (a.t = 3 ∨ a.t = 2 → (textV a).length ≤ 40) := text40 ha ha2
  have TLB : Hid (b.t = 3 ∨ b.t = 2 → (textV b).length ≤ 40) := text40 hb hb2
  obtain ⟨at', an, as'⟩ := a
  obtain ⟨bt, bn', bs⟩ := b
  dsimp only at AR TLA TLB bda bdb
  clear ha hb ha2 hb2 K
  by_cases h20 : op = 20
  · subst h20
    clear ho
    by_cases ha3 : at' = 3
    · subst ha3
      by_cases hb3 : bt = 3
      · subst hb3
        have la := TLA.out (by decide)
        have lb := TLB.out (by decide)
        obtain ⟨ta, HTA⟩ : ∃ ta, Hid (textV ⟨3, an, as'⟩ = ta) := ⟨_, rfl⟩
        obtain ⟨tb, HTB⟩ : ∃ tb, Hid (textV ⟨3, bn', bs⟩ = tb) := ⟨_, rfl⟩
        rw [HTA.out] at la TA
        rw [HTB.out] at lb TB
        have HZ : Hid (M.bin 20 ⟨3, an, as'⟩ ⟨3, bn', bs⟩ = if ta.length + tb.length > 40 then M.raise mLong else M.push [strV (ta ++ tb)]) := by
          show _ = _
          rw [← HTA.out, ← HTB.out]
          rfl
        have sza : (⟨ta.toArray⟩ : ByteArray).size = ta.length := by simp [ByteArray.size]
        have szb : (⟨tb.toArray⟩ : ByteArray).size = tb.length := by simp [ByteArray.size]
        go_enter Tryz.func129, Tryz.ntmps129
        go_wp2
        refine wp_region_tail 5 (by kernel_rfl) (by kernel_rfl) (fun _ _ _ _ _ h => h) ?_
        simp only [List.take_succ_cons, List.take_zero, List.drop_succ_cons, List.drop_zero]
        repeat go_big_quiet_step (fail)
        refine wpQuiet_nil ?_
        go_wp2_with fail
        refine (TA.out _).mono ?_
        rintro e1 w1 ⟨rfl, G1⟩
        have G2 : Fr (fun _ => False) W w1 := ((F2.out _ _).drew).trans G1 (fun _ _ x => x)
        have K2 : Has w1 (W.heap.size + 1) #[.int .i64 3, .int .u64 bn', sv bs] 68 := ((Has.newC _ _ _ (by simp)).drew).fr G1 (fun x => x)
        obtain ⟨y0, y1, y2⟩ := Has.cells3 (v := ⟨3, bn', bs⟩) K2
        dsimp only at y0 y1 y2
        have ly := K2.lt
        have d0 := G2.cell c0
        have ld : A.br < w1.heap.size := Nat.lt_of_lt_of_le l0 G2.size
        have HG2 := hid G2
        clear G1 G2 K2
        go_wp2_with fail
        refine wp_region_tail 5 (by kernel_rfl) (by kernel_rfl) (fun _ _ _ _ _ h => h) ?_
        simp only [List.take_succ_cons, List.take_zero, List.drop_succ_cons, List.drop_zero]
        repeat go_big_quiet_step (fail)
        refine wpQuiet_nil ?_
        go_wp2_with fail
        refine (TB.out _).mono ?_
        rintro e1 w2 ⟨rfl, G3⟩
        have HG3 := hid ((HG2.out.drew).trans G3 (fun _ _ x => x))
        clear G3 y0 y1 y2 ly d0 ld HG2
        by_cases h40 : ta.length + tb.length > 40
        · rw [if_pos h40] at HZ
          have h40i : ((40 : Int) < (ta.length : Int) + (tb.length : Int)) = True := by simp; omega
          go_wp2_with fail
          refine (RA.out mLong _ (by decide) HG3.out).mono ?_
          intro e3 w3 hq3
          obtain rfl := hq3.1
          have FIN : Hid (Q (.returned (.tuple #[])) w3) := by
            show Q _ _
            rw [← HQ.out, HZ.out]
            exact hq3
          clear hq3
          go_wp2
          refine bodyPost_ret (results_none rfl _ _ _) rfl ?_
          exact FIN.out
        · rw [if_neg h40] at HZ
          have h40i : ((40 : Int) < (ta.length : Int) + (tb.length : Int)) = False := by simp; omega
          have C3 := (HB.out.fresh HG3.out).pushStr HVL.out (ta ++ tb)
          have HC3 := hid C3
          clear C3
          go_wp2_with fail
          refine HC3.out.mono ?_
          rintro e3 w3 ⟨rfl, A3, B3, S3⟩
          have FIN : Hid (Q (.returned (.tuple #[])) w3) := by
            show Q _ _
            rw [← HQ.out, HZ.out]
            exact B3.end
          clear B3 S3
          go_wp2
          refine bodyPost_ret (results_none rfl _ _ _) rfl ?_
          exact FIN.out
      by_cases hb2' : bt = 2
      · subst hb2'
        have la := TLA.out (by decide)
        have lb := TLB.out (by decide)
        obtain ⟨ta, HTA⟩ : ∃ ta, Hid (textV ⟨3, an, as'⟩ = ta) := ⟨_, rfl⟩
        obtain ⟨tb, HTB⟩ : ∃ tb, Hid (textV ⟨2, bn', bs⟩ = tb) := ⟨_, rfl⟩
        rw [HTA.out] at la TA
        rw [HTB.out] at lb TB
        have HZ : Hid (M.bin 20 ⟨3, an, as'⟩ ⟨2, bn', bs⟩ = if ta.length + tb.length > 40 then M.raise mLong else M.push [strV (ta ++ tb)]) := by
          show _ = _
          rw [← HTA.out, ← HTB.out]
          rfl
        have sza : (⟨ta.toArray⟩ : ByteArray).size = ta.length := by simp [ByteArray.size]
        have szb : (⟨tb.toArray⟩ : ByteArray).size = tb.length := by simp [ByteArray.size]
        go_enter Tryz.func129, Tryz.ntmps129
        go_wp2
        refine wp_region_tail 5 (by kernel_rfl) (by kernel_rfl) (fun _ _ _ _ _ h => h) ?_
        simp only [List.take_succ_cons, List.take_zero, List.drop_succ_cons, List.drop_zero]
        repeat go_big_quiet_step (fail)
        refine wpQuiet_nil ?_
        go_wp2_with fail
        refine (TA.out _).mono ?_
        rintro e1 w1 ⟨rfl, G1⟩
        have G2 : Fr (fun _ => False) W w1 := ((F2.out _ _).drew).trans G1 (fun _ _ x => x)
        have K2 : Has w1 (W.heap.size + 1) #[.int .i64 2, .int .u64 bn', sv bs] 68 := ((Has.newC _ _ _ (by simp)).drew).fr G1 (fun x => x)
        obtain ⟨y0, y1, y2⟩ := Has.cells3 (v := ⟨2, bn', bs⟩) K2
        dsimp only at y0 y1 y2
        have ly := K2.lt
        have d0 := G2.cell c0
        have ld : A.br < w1.heap.size := Nat.lt_of_lt_of_le l0 G2.size
        have HG2 := hid G2
        clear G1 G2 K2
        go_wp2_with fail
        refine wp_region_tail 5 (by kernel_rfl) (by kernel_rfl) (fun _ _ _ _ _ h => h) ?_
        simp only [List.take_succ_cons, List.take_zero, List.drop_succ_cons, List.drop_zero]
        repeat go_big_quiet_step (fail)
        refine wpQuiet_nil ?_
        go_wp2_with fail
        refine (TB.out _).mono ?_
        rintro e1 w2 ⟨rfl, G3⟩
        have HG3 := hid ((HG2.out.drew).trans G3 (fun _ _ x => x))
        clear G3 y0 y1 y2 ly d0 ld HG2
        by_cases h40 : ta.length + tb.length > 40
        · rw [if_pos h40] at HZ
          have h40i : ((40 : Int) < (ta.length : Int) + (tb.length : Int)) = True := by simp; omega
          go_wp2_with fail
          refine (RA.out mLong _ (by decide) HG3.out).mono ?_
          intro e3 w3 hq3
          obtain rfl := hq3.1
          have FIN : Hid (Q (.returned (.tuple #[])) w3) := by
            show Q _ _
            rw [← HQ.out, HZ.out]
            exact hq3
          clear hq3
          go_wp2
          refine bodyPost_ret (results_none rfl _ _ _) rfl ?_
          exact FIN.out
        · rw [if_neg h40] at HZ
          have h40i : ((40 : Int) < (ta.length : Int) + (tb.length : Int)) = False := by simp; omega
          have C3 := (HB.out.fresh HG3.out).pushStr HVL.out (ta ++ tb)
          have HC3 := hid C3
          clear C3
          go_wp2_with fail
          refine HC3.out.mono ?_
          rintro e3 w3 ⟨rfl, A3, B3, S3⟩
          have FIN : Hid (Q (.returned (.tuple #[])) w3) := by
            show Q _ _
            rw [← HQ.out, HZ.out]
            exact B3.end
          clear B3 S3
          go_wp2
          refine bodyPost_ret (results_none rfl _ _ _) rfl ?_
          exact FIN.out
      have n3 : (bt != 3) = true := by rw [bne_iff_ne]; exact hb3
      have n2 : (bt != 2) = true := by rw [bne_iff_ne]; exact hb2'
      have HZ : Hid (M.bin 20 ⟨3, an, as'⟩ ⟨bt, bn', bs⟩ = M.raise mConcat) := by
        show _ = _
        unfold MD.bin; rw [if_pos rfl, if_pos (.inr ⟨hb3, hb2'⟩)]
      clear TA TB CM AR TLA TLB bda bdb hb3 hb2'
      go_enter Tryz.func129, Tryz.ntmps129
      go_wp2_with fail
      refine (RA.out mConcat _ (by decide) (F2.out _ _)).mono ?_
      intro e3 w3 hq3
      obtain rfl := hq3.1
      have FIN : Hid (Q (.returned (.tuple #[])) w3) := by
        show Q _ _
        rw [← HQ.out, HZ.out]
        exact hq3
      clear hq3
      go_wp2
      refine bodyPost_ret (results_none rfl _ _ _) rfl ?_
      exact FIN.out
    by_cases ha2' : at' = 2
    · subst ha2'
      by_cases hb3 : bt = 3
      · subst hb3
        have la := TLA.out (by decide)
        have lb := TLB.out (by decide)
        obtain ⟨ta, HTA⟩ : ∃ ta, Hid (textV ⟨2, an, as'⟩ = ta) := ⟨_, rfl⟩
        obtain ⟨tb, HTB⟩ : ∃ tb, Hid (textV ⟨3, bn', bs⟩ = tb) := ⟨_, rfl⟩
        rw [HTA.out] at la TA
        rw [HTB.out] at lb TB
        have HZ : Hid (M.bin 20 ⟨2, an, as'⟩ ⟨3, bn', bs⟩ = if ta.length + tb.length > 40 then M.raise mLong else M.push [strV (ta ++ tb)]) := by
          show _ = _
          rw [← HTA.out, ← HTB.out]
          rfl
        have sza : (⟨ta.toArray⟩ : ByteArray).size = ta.length := by simp [ByteArray.size]
        have szb : (⟨tb.toArray⟩ : ByteArray).size = tb.length := by simp [ByteArray.size]
        go_enter Tryz.func129, Tryz.ntmps129
        go_wp2
        refine wp_region_tail 5 (by kernel_rfl) (by kernel_rfl) (fun _ _ _ _ _ h => h) ?_
        simp only [List.take_succ_cons, List.take_zero, List.drop_succ_cons, List.drop_zero]
        repeat go_big_quiet_step (fail)
        refine wpQuiet_nil ?_
        go_wp2_with fail
        refine (TA.out _).mono ?_
        rintro e1 w1 ⟨rfl, G1⟩
        have G2 : Fr (fun _ => False) W w1 := ((F2.out _ _).drew).trans G1 (fun _ _ x => x)
        have K2 : Has w1 (W.heap.size + 1) #[.int .i64 3, .int .u64 bn', sv bs] 68 := ((Has.newC _ _ _ (by simp)).drew).fr G1 (fun x => x)
        obtain ⟨y0, y1, y2⟩ := Has.cells3 (v := ⟨3, bn', bs⟩) K2
        dsimp only at y0 y1 y2
        have ly := K2.lt
        have d0 := G2.cell c0
        have ld : A.br < w1.heap.size := Nat.lt_of_lt_of_le l0 G2.size
        have HG2 := hid G2
        clear G1 G2 K2
        go_wp2_with fail
        refine wp_region_tail 5 (by kernel_rfl) (by kernel_rfl) (fun _ _ _ _ _ h => h) ?_
        simp only [List.take_succ_cons, List.take_zero, List.drop_succ_cons, List.drop_zero]
        repeat go_big_quiet_step (fail)
        refine wpQuiet_nil ?_
        go_wp2_with fail
        refine (TB.out _).mono ?_
        rintro e1 w2 ⟨rfl, G3⟩
        have HG3 := hid ((HG2.out.drew).trans G3 (fun _ _ x => x))
        clear G3 y0 y1 y2 ly d0 ld HG2
        by_cases h40 : ta.length + tb.length > 40
        · rw [if_pos h40] at HZ
          have h40i : ((40 : Int) < (ta.length : Int) + (tb.length : Int)) = True := by simp; omega
          go_wp2_with fail
          refine (RA.out mLong _ (by decide) HG3.out).mono ?_
          intro e3 w3 hq3
          obtain rfl := hq3.1
          have FIN : Hid (Q (.returned (.tuple #[])) w3) := by
            show Q _ _
            rw [← HQ.out, HZ.out]
            exact hq3
          clear hq3
          go_wp2
          refine bodyPost_ret (results_none rfl _ _ _) rfl ?_
          exact FIN.out
        · rw [if_neg h40] at HZ
          have h40i : ((40 : Int) < (ta.length : Int) + (tb.length : Int)) = False := by simp; omega
          have C3 := (HB.out.fresh HG3.out).pushStr HVL.out (ta ++ tb)
          have HC3 := hid C3
          clear C3
          go_wp2_with fail
          refine HC3.out.mono ?_
          rintro e3 w3 ⟨rfl, A3, B3, S3⟩
          have FIN : Hid (Q (.returned (.tuple #[])) w3) := by
            show Q _ _
            rw [← HQ.out, HZ.out]
            exact B3.end
          clear B3 S3
          go_wp2
          refine bodyPost_ret (results_none rfl _ _ _) rfl ?_
          exact FIN.out
      by_cases hb2' : bt = 2
      · subst hb2'
        have la := TLA.out (by decide)
        have lb := TLB.out (by decide)
        obtain ⟨ta, HTA⟩ : ∃ ta, Hid (textV ⟨2, an, as'⟩ = ta) := ⟨_, rfl⟩
        obtain ⟨tb, HTB⟩ : ∃ tb, Hid (textV ⟨2, bn', bs⟩ = tb) := ⟨_, rfl⟩
        rw [HTA.out] at la TA
        rw [HTB.out] at lb TB
        have HZ : Hid (M.bin 20 ⟨2, an, as'⟩ ⟨2, bn', bs⟩ = if ta.length + tb.length > 40 then M.raise mLong else M.push [strV (ta ++ tb)]) := by
          show _ = _
          rw [← HTA.out, ← HTB.out]
          rfl
        have sza : (⟨ta.toArray⟩ : ByteArray).size = ta.length := by simp [ByteArray.size]
        have szb : (⟨tb.toArray⟩ : ByteArray).size = tb.length := by simp [ByteArray.size]
        go_enter Tryz.func129, Tryz.ntmps129
        go_wp2
        refine wp_region_tail 5 (by kernel_rfl) (by kernel_rfl) (fun _ _ _ _ _ h => h) ?_
        simp only [List.take_succ_cons, List.take_zero, List.drop_succ_cons, List.drop_zero]
        repeat go_big_quiet_step (fail)
        refine wpQuiet_nil ?_
        go_wp2_with fail
        refine (TA.out _).mono ?_
        rintro e1 w1 ⟨rfl, G1⟩
        have G2 : Fr (fun _ => False) W w1 := ((F2.out _ _).drew).trans G1 (fun _ _ x => x)
        have K2 : Has w1 (W.heap.size + 1) #[.int .i64 2, .int .u64 bn', sv bs] 68 := ((Has.newC _ _ _ (by simp)).drew).fr G1 (fun x => x)
        obtain ⟨y0, y1, y2⟩ := Has.cells3 (v := ⟨2, bn', bs⟩) K2
        dsimp only at y0 y1 y2
        have ly := K2.lt
        have d0 := G2.cell c0
        have ld : A.br < w1.heap.size := Nat.lt_of_lt_of_le l0 G2.size
        have HG2 := hid G2
        clear G1 G2 K2
        go_wp2_with fail
        refine wp_region_tail 5 (by kernel_rfl) (by kernel_rfl) (fun _ _ _ _ _ h => h) ?_
        simp only [List.take_succ_cons, List.take_zero, List.drop_succ_cons, List.drop_zero]
        repeat go_big_quiet_step (fail)
        refine wpQuiet_nil ?_
        go_wp2_with fail
        refine (TB.out _).mono ?_
        rintro e1 w2 ⟨rfl, G3⟩
        have HG3 := hid ((HG2.out.drew).trans G3 (fun _ _ x => x))
        clear G3 y0 y1 y2 ly d0 ld HG2
        by_cases h40 : ta.length + tb.length > 40
        · rw [if_pos h40] at HZ
          have h40i : ((40 : Int) < (ta.length : Int) + (tb.length : Int)) = True := by simp; omega
          go_wp2_with fail
          refine (RA.out mLong _ (by decide) HG3.out).mono ?_
          intro e3 w3 hq3
          obtain rfl := hq3.1
          have FIN : Hid (Q (.returned (.tuple #[])) w3) := by
            show Q _ _
            rw [← HQ.out, HZ.out]
            exact hq3
          clear hq3
          go_wp2
          refine bodyPost_ret (results_none rfl _ _ _) rfl ?_
          exact FIN.out
        · rw [if_neg h40] at HZ
          have h40i : ((40 : Int) < (ta.length : Int) + (tb.length : Int)) = False := by simp; omega
          have C3 := (HB.out.fresh HG3.out).pushStr HVL.out (ta ++ tb)
          have HC3 := hid C3
          clear C3
          go_wp2_with fail
          refine HC3.out.mono ?_
          rintro e3 w3 ⟨rfl, A3, B3, S3⟩
          have FIN : Hid (Q (.returned (.tuple #[])) w3) := by
            show Q _ _
            rw [← HQ.out, HZ.out]
            exact B3.end
          clear B3 S3
          go_wp2
          refine bodyPost_ret (results_none rfl _ _ _) rfl ?_
          exact FIN.out
      have n3 : (bt != 3) = true := by rw [bne_iff_ne]; exact hb3
      have n2 : (bt != 2) = true := by rw [bne_iff_ne]; exact hb2'
      have HZ : Hid (M.bin 20 ⟨2, an, as'⟩ ⟨bt, bn', bs⟩ = M.raise mConcat) := by
        show _ = _
        unfold MD.bin; rw [if_pos rfl, if_pos (.inr ⟨hb3, hb2'⟩)]
      clear TA TB CM AR TLA TLB bda bdb hb3 hb2'
      go_enter Tryz.func129, Tryz.ntmps129
      go_wp2_with fail
      refine (RA.out mConcat _ (by decide) (F2.out _ _)).mono ?_
      intro e3 w3 hq3
      obtain rfl := hq3.1
      have FIN : Hid (Q (.returned (.tuple #[])) w3) := by
        show Q _ _
        rw [← HQ.out, HZ.out]
        exact hq3
      clear hq3
      go_wp2
      refine bodyPost_ret (results_none rfl _ _ _) rfl ?_
      exact FIN.out
    have m3 : (at' != 3) = true := by rw [bne_iff_ne]; exact ha3
    have m2 : (at' != 2) = true := by rw [bne_iff_ne]; exact ha2'
    have HZ : Hid (M.bin 20 ⟨at', an, as'⟩ ⟨bt, bn', bs⟩ = M.raise mConcat) := by
      show _ = _
      unfold MD.bin; rw [if_pos rfl, if_pos (.inl ⟨ha3, ha2'⟩)]
    clear TA TB CM AR TLA TLB bda bdb ha3 ha2'
    go_enter Tryz.func129, Tryz.ntmps129
    go_wp2_with fail
    refine (RA.out mConcat _ (by decide) (F2.out _ _)).mono ?_
    intro e3 w3 hq3
    obtain rfl := hq3.1
    have FIN : Hid (Q (.returned (.tuple #[])) w3) := by
      show Q _ _
      rw [← HQ.out, HZ.out]
      exact hq3
    clear hq3
    go_wp2
    refine bodyPost_ret (results_none rfl _ _ _) rfl ?_
    exact FIN.out
  have b20 : ((op : Int) == 20) = false := by rw [beq_eq_false_iff_ne]; omega
  by_cases h10 : 10 < op
  · have hop : 11 ≤ op ∧ op ≤ 16 := by omega
    have g10 : ((10 : Int) < (op : Int)) = True := by simp; omega
    have C1 := fun W2 => CM.out W2 hop.1 hop.2
    obtain ⟨R, HR⟩ : ∃ R, Hid (compareP ((op - 10 : Nat) : Int) ⟨at', an, as'⟩ ⟨bt, bn', bs⟩ = R) := ⟨_, rfl⟩
    have HZ : Hid (M.bin op ⟨at', an, as'⟩ ⟨bt, bn', bs⟩ = binC M R) := by
      show _ = _
      unfold MD.bin
      rw [if_neg h20, if_pos h10, ← HR.out]
      rfl
    rw [HR.out] at C1
    have HC1 := hid C1
    have ho16 := hop.2
    clear C1 CM TA TB AR TLA TLB bda bdb ho h20 hop
    rcases R with _ | c
    · have HC2 : Hid (∀ W2, Calls Tryz.prog 203 #[.pointer (some ⟨A.bn, 0, none⟩), .int .i64 ((op : Int) - 10), (⟨at', an, as'⟩ : Vl).val, (⟨bt, bn', bs⟩ : Vl).val] W2 fun e w' => e = .returned (.tuple #[.bool false, .bool false]) ∧ Fr (fun _ => False) W2 w') := HC1.out
      clear HC1
      go_enter Tryz.func129, Tryz.ntmps129
      go_wp2
      refine wp_region_Y 8 1 12 (by kernel_rfl) (by kernel_rfl) (fun _ _ _ _ _ h => h) ?_
      simp only [List.take_succ_cons, List.take_zero, List.drop_succ_cons, List.drop_zero]
      repeat go_big_quiet_step (fail)
      refine wpQuiet_nil ?_
      go_wp2_with fail
      refine (HC2.out _).mono ?_
      rintro e1 w1 ⟨rfl, G1⟩
      have HG := hid (((F2.out _ _).drew).trans G1 (fun _ _ x => x))
      clear G1
      go_wp2_with fail
      try simp only [List.take_succ_cons, List.take_zero, List.drop_succ_cons, List.drop_zero]
      repeat go_big_quiet_step (fail)
      refine wpQuiet_nil ?_
      go_wp2_with fail
      refine (RA.out mCompare _ (by decide) HG.out).mono ?_
      intro e3 w3 hq3
      obtain rfl := hq3.1
      have FIN : Hid (Q (.returned (.tuple #[])) w3) := by
        show Q _ _
        rw [← HQ.out, HZ.out]
        exact hq3
      clear hq3
      go_wp2
      refine bodyPost_ret (results_none rfl _ _ _) rfl ?_
      exact FIN.out
    · have HC2 : Hid (∀ W2, Calls Tryz.prog 203 #[.pointer (some ⟨A.bn, 0, none⟩), .int .i64 ((op : Int) - 10), (⟨at', an, as'⟩ : Vl).val, (⟨bt, bn', bs⟩ : Vl).val] W2 fun e w' => e = .returned (.tuple #[.bool c, .bool true]) ∧ Fr (fun _ => False) W2 w') := HC1.out
      clear HC1
      go_enter Tryz.func129, Tryz.ntmps129
      go_wp2
      refine wp_region_Y 8 1 12 (by kernel_rfl) (by kernel_rfl) (fun _ _ _ _ _ h => h) ?_
      simp only [List.take_succ_cons, List.take_zero, List.drop_succ_cons, List.drop_zero]
      repeat go_big_quiet_step (fail)
      refine wpQuiet_nil ?_
      go_wp2_with fail
      refine (HC2.out _).mono ?_
      rintro e1 w1 ⟨rfl, G1⟩
      have HG := hid (((F2.out _ _).drew).trans G1 (fun _ _ x => x))
      clear G1
      have HC3 := hid ((HB.out.fresh HG.out).pushBool HVL.out c)
      go_wp2_with fail
      try simp only [List.take_succ_cons, List.take_zero, List.drop_succ_cons, List.drop_zero]
      repeat go_big_quiet_step (fail)
      refine wpQuiet_nil ?_
      go_wp2_with fail
      refine HC3.out.mono ?_
      rintro e3 w3 ⟨rfl, A3, B3, S3⟩
      have FIN : Hid (Q (.returned (.tuple #[])) w3) := by
        show Q _ _
        rw [← HQ.out, HZ.out]
        exact B3.end
      clear B3 S3
      go_wp2
      refine bodyPost_ret (results_none rfl _ _ _) rfl ?_
      exact FIN.out
  have hop : 1 ≤ op ∧ op ≤ 6 := by omega
  have g10 : ((10 : Int) < (op : Int)) = False := by simp; omega
  by_cases ha2' : at' = 2
  · subst ha2'
    by_cases hb2' : bt = 2
    · subst hb2'
      have C1 := fun W2 => AR.out W2 rfl rfl hop.1 hop.2
      have HZ : Hid (M.bin op ⟨2, an, as'⟩ ⟨2, bn', bs⟩ = M.push [numV (arithN op an bn')]) := by
        show _ = _
        unfold MD.bin
        rw [if_neg h20, if_neg h10, if_neg (fun z => z.elim (fun z => z rfl) (fun z => z rfl))]
      obtain ⟨x, HXX⟩ : ∃ x, Hid (arithN op an bn' = x) := ⟨_, rfl⟩
      rw [HXX.out] at C1 HZ
      have HC1 := hid C1
      clear C1 CM TA TB AR TLA TLB bda bdb ho h20 hop h10
      go_enter Tryz.func129, Tryz.ntmps129
      go_wp2
      refine wp_region_tail 9 (by kernel_rfl) (by kernel_rfl) (fun _ _ _ _ _ h => h) ?_
      simp only [List.take_succ_cons, List.take_zero, List.drop_succ_cons, List.drop_zero]
      repeat go_big_quiet_step (fail)
      refine wpQuiet_nil ?_
      go_wp2_with fail
      refine (HC1.out _).mono ?_
      rintro e1 w1 ⟨rfl, hw1⟩
      rw [hw1]
      have HC3 := hid ((HB.out.fresh ((F2.out (.cells #[.int .i64 2, .int .u64 an, sv as'] 68) (.cells #[.int .i64 2, .int .u64 bn', sv bs] 68)).drew)).pushN HVL.out x)
      go_wp2_with fail
      refine HC3.out.mono ?_
      rintro e3 w3 ⟨rfl, A3, B3, S3⟩
      have FIN : Hid (Q (.returned (.tuple #[])) w3) := by
        show Q _ _
        rw [← HQ.out, HZ.out]
        exact B3.end
      clear B3 S3
      go_wp2
      go_end0
      exact FIN.out
    · have n2 : (bt != 2) = true := by rw [bne_iff_ne]; exact hb2'
      have HZ : Hid (M.bin op ⟨2, an, as'⟩ ⟨bt, bn', bs⟩ = M.raise mArith) := by
        show _ = _
        unfold MD.bin; rw [if_neg h20, if_neg h10, if_pos (.inr hb2')]
      clear TA TB CM AR TLA TLB bda bdb hb2' ho h20 hop h10
      go_enter Tryz.func129, Tryz.ntmps129
      go_wp2_with fail
      refine (RA.out mArith _ (by decide) (F2.out _ _)).mono ?_
      intro e3 w3 hq3
      obtain rfl := hq3.1
      have FIN : Hid (Q (.returned (.tuple #[])) w3) := by
        show Q _ _
        rw [← HQ.out, HZ.out]
        exact hq3
      clear hq3
      go_wp2
      refine bodyPost_ret (results_none rfl _ _ _) rfl ?_
      exact FIN.out
  · have m2 : (at' != 2) = true := by rw [bne_iff_ne]; exact ha2'
    have HZ : Hid (M.bin op ⟨at', an, as'⟩ ⟨bt, bn', bs⟩ = M.raise mArith) := by
      show _ = _
      unfold MD.bin; rw [if_neg h20, if_neg h10, if_pos (.inl ha2')]
    clear TA TB CM AR TLA TLB bda bdb ha2' ho h20 hop h10
    go_enter Tryz.func129, Tryz.ntmps129
    go_wp2_with fail
    refine (RA.out mArith _ (by decide) (F2.out _ _)).mono ?_
    intro e3 w3 hq3
    obtain rfl := hq3.1
    have FIN : Hid (Q (.returned (.tuple #[])) w3) := by
      show Q _ _
      rw [← HQ.out, HZ.out]
      exact hq3
    clear hq3
    go_wp2
    refine bodyPost_ret (results_none rfl _ _ _) rfl ?_
    exact FIN.out
end
end Go.Proofs.Qxb6500574aGreatDoor
