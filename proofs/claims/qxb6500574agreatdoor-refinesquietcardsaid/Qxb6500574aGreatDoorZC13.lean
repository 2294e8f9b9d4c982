/-
  THE WALKS of compm: un.
-/
import Derived.Test.Qxb6500574aGreatDoorZC12
import Derived.Test.Qxb6500574aGreatDoorReg9
namespace Go.Proofs.Qxb6500574aGreatDoor
open Go Go.RowKit
set_option linter.unusedVariables false
set_option linter.unusedSimpArgs false
section
variable {w W W1 : World} {A A1 A2 : RnP} {N : List Nd} {root : Nat} {M : MD}
set_option maxRecDepth 100000
set_option maxHeartbeats 1000000
theorem un_m (B : RB w A N root W A1 M) (K : ThrOk M) (T : ∀ t ∈ M.tabs, TTi t) (h12 : M.tabs.length ≤ 12) {op : Nat} (ho : 1 ≤ op ∧ op ≤ 3) {a : Vl} (ha : wellV a = true) (ha2 : a.t = 2 → a.n < 18446744073709551616) (ha4 : a.t = 4 → a.n < M.tabs.length) {op' : Int} (hop : op' = op) :
    Calls Tryz.prog 130 #[.pointer (some ⟨A.br, 0, none⟩), .int .i64 op', a.val] W (PQm w A N root (M.un op a)) := by
  subst hop
  obtain ⟨Q, HQ⟩ : ∃ Q : Ending → World → Prop, Hid (PQm w A N root (M.un op a) = Q) := ⟨_, rfl⟩
  rw [HQ.out]
  obtain ⟨c0, c1, l0⟩ := B.c0
  have F1 : Hid (∀ x, Fr (fun _ => False) W (W.alloc x)) := fun x => ((Fr.refl _ _).alloc _)
  have RA : Hid (∀ (s : Bs) W2, s.length ≤ 40 → Fr (fun _ => False) W W2 → Calls Tryz.prog 121 #[.pointer (some ⟨A.br, 0, none⟩), sv s] W2 (PQm w A N root (M.raise s))) := fun s W2 hs f => (B.fresh f).raise K s hs
  have HVL : Hid (M.th.vals.length ≤ 1000000) := by have := K.vl; exact Nat.le_trans this (by omega)
  have HB := hid B
  have TR : Hid (∀ W2, Calls Tryz.prog 119 #[a.val] W2 fun e w' => e = .returned (.bool (truthy a)) ∧ Fr (fun _ => False) W2 w') := fun W2 => truthy_any a
  have NG : Hid (∀ W2, a.t = 2 → Calls Tryz.prog 205 #[.pointer (some ⟨A.bn, 0, none⟩), .int .u64 a.n] W2 fun e w' => e = .returned (.int .u64 (negN a.n)) ∧ w' = W2) := fun W2 z => by
    have := neg_m (w := W2) (bn := A.bn) (ha2 z)
    rw [← negM_ok (ha2 z)] at this
    exact this
  have FI : Hid (∀ W2 (n : Nat), n ≤ 1000000 → Calls Tryz.prog 127 #[.pointer (some ⟨A.bn, 0, none⟩), .int .i64 n] W2 fun e w' => e = .returned (.int .u64 (fromIntN n)) ∧ w' = W2) := fun W2 n hn => by
    have := fromInt_m (w := W2) (bn := A.bn) (i := (n : Int)) (by omega) (by omega)
    rw [← fromInt_okM (by omega) (by omega)] at this
    exact this
  have LN : Hid (∀ W2, a.t = 4 → Fr (fun _ => False) W W2 → Calls Tryz.prog 206 #[.pointer (some ⟨A.bt, 0, none⟩), .int .i64 a.n] W2 fun e w' => e = .returned (.tuple #[.int .i64 (M.tabs.getD a.n tab0).len, .int .i64 0]) ∧ Fr (fun _ => False) W2 w') := fun W2 z f => (B.fresh f).tlenC T (ha4 z)
  have LL : Hid (a.t = 4 → (M.tabs.getD a.n tab0).len ≤ 32) := fun z => by
    have hm : M.tabs.getD a.n tab0 ∈ M.tabs := by rw [List.getD_eq_getElem?_getD, List.getElem?_eq_getElem (ha4 z)]; exact List.getElem_mem (ha4 z)
    have hT := T _ hm
    have hal := hT.f.al
    have key : ∀ (t : TabD) (l : List Nat) (n : Nat), lenL t l n ≤ n + l.length := by
      intro t l
      induction l with
      | nil => intro n; exact Nat.le_refl _
      | cons p l ih => intro n; unfold lenL; split; simp; have := ih (n + 1); simp; omega
    unfold TabD.len
    split
    · exact hal
    · have := key (M.tabs.getD a.n tab0) (M.tabs.getD a.n tab0).arr 0
      omega
  have SL : Hid (a.t = 3 → a.s.length ≤ 40) := fun z => by
    have := text40 ha ha2 (.inl z)
    have e : textV a = a.s := by unfold textV; simp [z]
    rw [e] at this
    exact this
  have N12 : Hid (a.t = 4 → a.n < 12) := fun z => by have := ha4 z; omega
  obtain ⟨at', an, as'⟩ := a
  dsimp only at NG LN LL SL N12
  clear B K T ha ha2 ha4 h12
  have FINQ : Hid (∀ {m' : MD} {A' : RnP} {w3 : World}, M.un op ⟨at', an, as'⟩ = m' → RB w A N root w3 A' m' → Q (.returned (.tuple #[])) w3) := fun e b => by
    rw [← HQ.out, e]
    exact b.end
  have FINR : Hid (∀ {m' : MD} {e3 : Ending} {w3 : World}, M.un op ⟨at', an, as'⟩ = m' → PQm w A N root m' e3 w3 → Q e3 w3) := fun e b => by
    rw [← HQ.out, e]
    exact b
  have : op = 1 ∨ op = 2 ∨ op = 3 := by omega
  rcases this with rfl | rfl | rfl
  · by_cases h2 : at' = 2
    · subst h2
      have C1 := fun W2 => NG.out W2 rfl
      have HZ : Hid (M.un 1 ⟨2, an, as'⟩ = M.push [numV (negN an)]) := rfl
      obtain ⟨x, HXX⟩ : ∃ x, Hid (negN an = x) := ⟨_, rfl⟩
      rw [HXX.out] at C1 HZ
      have HC1 := hid C1
      clear C1 NG LN LL SL N12 TR FI
      go_enter Tryz.func130, Tryz.ntmps130
      go_wp2
      refine wp_region_tail 6 (by kernel_rfl) (by kernel_rfl) (fun _ _ _ _ _ h => h) ?_
      simp only [List.take_succ_cons, List.take_zero, List.drop_succ_cons, List.drop_zero]
      repeat go_big_quiet_step (fail)
      refine wpQuiet_nil ?_
      go_wp2_with fail
      refine (HC1.out _).mono ?_
      rintro e1 w1 ⟨rfl, hw1⟩
      rw [hw1]
      have HC3 := hid ((HB.out.fresh ((F1.out (.cells #[.int .i64 2, .int .u64 an, sv as'] 68)).drew)).pushN HVL.out x)
      go_wp2_with fail
      refine HC3.out.mono ?_
      rintro e3 w3 ⟨rfl, A3, B3, S3⟩
      have FIN := hid (FINQ.out HZ.out B3)
      clear B3 S3
      go_wp2
      go_end0
      exact FIN.out
    · have b2 : (at' != 2) = true := by rw [bne_iff_ne]; exact h2
      have HZ : Hid (M.un 1 ⟨at', an, as'⟩ = M.raise mArith) := by
        show _ = _
        unfold MD.un
        rw [if_neg (by decide), if_pos rfl, if_pos h2]
      clear NG LN LL SL N12 TR FI h2
      go_enter Tryz.func130, Tryz.ntmps130
      go_wp2_with fail
      refine (RA.out mArith _ (by decide) (F1.out _)).mono ?_
      intro e3 w3 hq3
      obtain rfl := hq3.1
      have FIN := hid (FINR.out HZ.out hq3)
      clear hq3
      go_wp2
      refine bodyPost_ret (results_none rfl _ _ _) rfl ?_
      exact FIN.out
  · have HZ : Hid (M.un 2 ⟨at', an, as'⟩ = M.push [boolV (!truthy ⟨at', an, as'⟩)]) := rfl
    obtain ⟨z, HZZ⟩ : ∃ z, Hid (truthy ⟨at', an, as'⟩ = z) := ⟨_, rfl⟩
    rw [HZZ.out] at HZ TR
    clear NG LN LL SL N12 FI
    go_enter Tryz.func130, Tryz.ntmps130
    go_wp2_with fail
    refine (TR.out _).mono ?_
    rintro e1 w1 ⟨rfl, G1⟩
    have HG := hid ((F1.out _).trans G1 (fun _ _ x => x))
    have HC3 := hid ((HB.out.fresh HG.out).pushBool HVL.out (!z))
    clear G1
    go_wp2_with fail
    refine HC3.out.mono ?_
    rintro e3 w3 ⟨rfl, A3, B3, S3⟩
    have FIN := hid (FINQ.out HZ.out B3)
    clear B3 S3
    go_wp2
    go_end0
    exact FIN.out
  · by_cases h4 : at' = 4
    · subst h4
      have C1 := fun W2 f => LN.out W2 rfl f
      have hll := LL.out rfl
      have hn12 := N12.out rfl
      have HZ : Hid (M.un 3 ⟨4, an, as'⟩ = M.push [numV (fromIntN (M.tabs.getD an tab0).len)]) := rfl
      obtain ⟨x, HXX⟩ : ∃ x, Hid ((M.tabs.getD an tab0).len = x) := ⟨_, rfl⟩
      rw [HXX.out] at C1 HZ hll
      have HC1 := hid C1
      have C2 := fun W2 => FI.out W2 x (by omega)
      obtain ⟨y, HYY⟩ : ∃ y, Hid (fromIntN (x : Int) = y) := ⟨_, rfl⟩
      rw [HYY.out] at C2 HZ
      have HC2 := hid C2
      clear C1 C2 NG LN LL SL N12 TR FI
      have NE := WS.non (W.alloc (.cells #[.int .i64 4, .int .u64 an, sv as'] 68))
      have u1 := fun z : WS (W.alloc (.cells #[.int .i64 4, .int .u64 an, sv as'] 68)) => z.f.cell ((F1.out _).cell c1)
      have u2 := fun z : WS (W.alloc (.cells #[.int .i64 4, .int .u64 an, sv as'] 68)) => z.f.cell (show (W.alloc (.cells #[.int .i64 4, .int .u64 an, sv as'] 68)).cell? ⟨W.heap.size, 1, none⟩ = some (.int .u64 an) by rw [(Has.new _ _ _).cell]; rfl)
      go_enter Tryz.func130, Tryz.ntmps130
      go_wp2
      refine wp_region_plan [0, 1, 2, 3, 4, 5] (.one 6 (.one 7 (.quiet [8, 9, 10] .done))) 11 (fun x => ∃ z : WS (W.alloc (.cells #[.int .i64 4, .int .u64 an, sv as'] 68)), x = z.y) (by kernel_rfl) (by kernel_rfl) (fun _ _ _ _ _ h => h) ⟨⟨_, (Fr.refl _ _).drew⟩, rfl⟩ [_, _, _, _, _, _] rfl _ rfl ?_
      simp only [List.getElem_toArray, List.getElem_cons_succ, List.getElem_cons_zero, List.drop_succ_cons, List.drop_zero, List.length_cons, List.length_nil, Nat.zero_add]
      repeat go_big_quiet_step (fail)
      refine wpQuiet_nil ?_
      clear u1 u2
      refine ⟨fun a' a W3 => a = ((((a'.put (some 52) (.int .i64 an)).put (some 53) (.tuple #[.int .i64 x, .int .i64 0])).put (some 45) (.tuple #[.int .i64 x, .int .i64 0])).put (some 54) (.int .i64 x)).put (some 55) (.int .i64 0) ∧ Fr (fun _ => False) (W.alloc (.cells #[.int .i64 4, .int .u64 an, sv as'] 68)) W3, ?_, ?_⟩
      · rintro a W3 hSW ⟨rfl, f3⟩
        clear hSW NE
        have HF3 := hid f3
        have HG := hid ((F1.out _).trans f3 (fun _ _ x => x))
        have d0 := HG.out.cell c0
        have ld : A.br < W3.heap.size := Nat.lt_of_lt_of_le l0 HG.out.size
        have HC3 := hid ((HB.out.fresh HG.out).pushN HVL.out y)
        clear f3
        simp only [Act.put, List.setIfInBounds_toArray, List.set_cons_succ, List.set_cons_zero]
        unfold wpChain
        go_wp2_with fail
        refine ⟨⟨⟨_, HF3.out⟩, rfl⟩, ?_⟩
        rw [wpChain_zero]
        go_wp2_with fail
        refine (HC2.out _).mono ?_
        rintro e1 w1 ⟨rfl, hw1⟩
        rw [hw1]
        go_wp2_with fail
        refine HC3.out.mono ?_
        rintro e3 w3 ⟨rfl, A3, B3, S3⟩
        have FIN := hid (FINQ.out HZ.out B3)
        clear B3 S3 d0 ld
        go_wp2
        go_end0
        exact FIN.out
      · intro G HG'
        refine ⟨_, rfl, ?_⟩
        go_wp2_with fail
        refine ⟨⟨⟨_, (Fr.refl _ _).drew⟩, rfl⟩, _, rfl, ?_⟩
        go_wp2_with fail
        refine (HC1.out _ ((F1.out _).drew)).mono ?_
        rintro e1 w1 ⟨rfl, G1⟩
        have f6 : Fr (fun _ => False) (W.alloc (.cells #[.int .i64 4, .int .u64 an, sv as'] 68)) w1 := ((Fr.refl _ _).drew).trans G1 (fun _ _ x => x)
        have HF6 := hid f6
        clear G1 f6
        go_wp2_with fail
        refine ⟨⟨⟨_, HF6.out⟩, rfl⟩, [_, _, _], rfl, ?_⟩
        simp only [List.getElem_toArray, List.getElem_cons_succ, List.getElem_cons_zero]
        repeat go_big_quiet_step (fail)
        refine wpQuiet_nil ?_
        show G _ _
        rw [HG'.out]
        exact ⟨by kernel_rfl, HF6.out⟩
    · have b4 : (at' == 4) = false := by rw [beq_eq_false_iff_ne]; exact h4
      by_cases h3 : at' = 3
      · subst h3
        have hsl := SL.out rfl
        have HZ : Hid (M.un 3 ⟨3, an, as'⟩ = M.push [numV (fromIntN as'.length)]) := rfl
        have C2 := fun W2 => FI.out W2 as'.length (by omega)
        obtain ⟨y, HYY⟩ : ∃ y, Hid (fromIntN (as'.length : Int) = y) := ⟨_, rfl⟩
        rw [HYY.out] at C2 HZ
        have HC2 := hid C2
        have sza : (⟨as'.toArray⟩ : ByteArray).size = as'.length := by simp [ByteArray.size]
        clear C2 NG LN LL SL N12 TR FI h4 b4
        go_enter Tryz.func130, Tryz.ntmps130
        go_wp2_with fail
        refine (HC2.out _).mono ?_
        rintro e1 w1 ⟨rfl, hw1⟩
        rw [hw1]
        have HC3 := hid ((HB.out.fresh (F1.out (.cells #[.int .i64 3, .int .u64 an, sv as'] 68))).pushN HVL.out y)
        go_wp2_with fail
        refine HC3.out.mono ?_
        rintro e3 w3 ⟨rfl, A3, B3, S3⟩
        have FIN := hid (FINQ.out HZ.out B3)
        clear B3 S3
        go_wp2
        go_end0
        exact FIN.out
      · have b3 : (at' != 3) = true := by rw [bne_iff_ne]; exact h3
        have HZ : Hid (M.un 3 ⟨at', an, as'⟩ = M.raise mLen) := by
          show _ = _
          unfold MD.un
          rw [if_neg (by decide), if_neg (by decide), if_pos rfl, if_neg h4, if_pos h3]
        clear NG LN LL SL N12 TR FI h4 h3
        go_enter Tryz.func130, Tryz.ntmps130
        go_wp2_with fail
        refine (RA.out mLen _ (by decide) (F1.out _)).mono ?_
        intro e3 w3 hq3
        obtain rfl := hq3.1
        have FIN := hid (FINR.out HZ.out hq3)
        clear hq3
        go_wp2
        refine bodyPost_ret (results_none rfl _ _ _) rfl ?_
        exact FIN.out
end
end Go.Proofs.Qxb6500574aGreatDoor
