/-
  THE WALK of the parser layer: scan: numbers.
-/
import Derived.Test.Qxb6500574aGreatDoorWLx7
import Derived.Test.Qxb6500574aGreatDoorReg9
namespace Go.Proofs.Qxb6500574aGreatDoor
open Go Go.RowKit
set_option linter.unusedVariables false
set_option linter.unusedSimpArgs false
open Go.Lib
section
set_option maxRecDepth 100000
set_option maxHeartbeats 1000000
variable {w : World}
/-- a text that is too long is no number -/
theorem parse_all (n : Value) (s : Bs) (hs : s.length ≤ 4096) : Calls Tryz.prog 95 #[n, sv s] w (ParsePost (parseN s) w) := by
  by_cases h : s.length ≤ 100
  · exact parse_any n h
  · obtain ⟨Q, HQ⟩ : ∃ Q : Ending → World → Prop, Hid (ParsePost (parseN s) w = Q) := ⟨_, rfl⟩
    rw [HQ.out]
    unfold parseN at HQ
    rw [if_pos (by omega)] at HQ
    obtain ⟨N, HN⟩ : ∃ N, Hid (s.length = N) := ⟨_, rfl⟩
    have hsz : (⟨s.toArray⟩ : ByteArray).size = N := by rw [← HN.out]; simp [ByteArray.size]
    have hsz2 : s.toArray.size = N := hsz
    rw [HN.out] at hs h
    have h24i : (24 : Int) < (N : Int) := by omega
    go_enter Tryz.func95, Tryz.ntmps95
    go_wp2_with fail
    try go_ret2
    rw [← HQ.out]
    exact ⟨⟨1, by decide, rfl⟩, Fr.refl _ _⟩
structure WK (w : World) (kt : Nat) where
  y : World
  f : Fr (fun k => k = kt) w y
theorem WK.non (w : World) (kt : Nat) : Nonempty (WK w kt) := ⟨⟨w, Fr.refl _ _⟩⟩
theorem WK.cell {kt : Nat} (s : WK w kt) {b i : Nat} {v : Value} (h : w.cell? ⟨b, i, none⟩ = some v) (hb : b ≠ kt) : s.y.cell? ⟨b, i, none⟩ = some v := by
  have hl := World.block_lt_of_cell? w _ h
  unfold World.cell? at h ⊢
  simp only [s.f.block b hl hb]
  exact h
set_option maxHeartbeats 6000000 in
/-- a number -/
theorem sw_num {Q : Exit → Act → World → Prop} (hP : ∀ c a t v w, Q (.panic c) (a.put (some t) v) w → Q (.panic c) a w) {v0 v1 v4 v5 v6 v7 v8 v9 v10 v11 v21 : Value} {a : Act} (H : FrS v0 v1 v4 v5 v6 v7 v8 v9 v10 v11 v21 a) {s : Bs} {i N kt sx : Nat} {c : UInt8} {num : Value} (e0 : v0 = .pointer (some ⟨sx, 0, none⟩)) (e1 : v1 = sv s) (e7 : v7 = .int .i64 i) (e8 : v8 = .int .i32 c.toNat) (e9 : v9 = .pointer (some ⟨kt, 0, none⟩)) (hN : s.length = N) (hs : N ≤ 2048) (hc : s[i]? = some c) (hd : isDig c = true) (hsx : w.cell? ⟨sx, 0, none⟩ = some num) (hxt : sx ≠ kt) (ht : Has w kt #[.int .i64 1, .int .i64 i, sv [], .int .u64 0, .int .i64 14] 132)
    (hQ : ∀ a' W (u k : Nat), FrS v0 v1 v4 v5 (.int .i64 ((i + numLen (s.drop i) : Nat) : Int)) v7 v8 v9 v10 v11 v21 a' → Fr (fun _ => False) w W → ((k = 0 ∧ parseN ((s.drop i).take (numLen (s.drop i))) = some u) ∨ (k ≠ 0 ∧ u = 0 ∧ parseN ((s.drop i).take (numLen (s.drop i))) = none)) → Q .normal a' (if k = 0 then ((((W.setCell ⟨kt, 3, none⟩ (.int .u64 u)).setCell ⟨kt, 4, none⟩ (.int .i64 k)).setCell ⟨kt, 0, none⟩ (.int .i64 3)).setCell ⟨kt, 4, none⟩ (.int .i64 2)) else (((W.setCell ⟨kt, 3, none⟩ (.int .u64 u)).setCell ⟨kt, 4, none⟩ (.int .i64 k)).setCell ⟨kt, 4, none⟩ (.int .i64 2)))) : (scanSw Tryz.f60.body).wp Tryz.prog Q a w := by
  obtain ⟨u, rfl⟩ := H.form
  subst e0
  subst e1
  subst e7
  subst e8
  subst e9
  have hi := (List.getElem?_eq_some_iff.1 hc).1
  rw [hN] at hi
  have hsz : (⟨s.toArray⟩ : ByteArray).size = N := by rw [← hN]; simp [ByteArray.size]
  have hsz2 : s.toArray.size = N := hsz
  have hdn := isDig_nat c
  have hln := isLet_nat c
  rw [hd] at hdn
  obtain ⟨cn, HCN⟩ : ∃ cn, Hid (c.toNat = cn) := ⟨_, rfl⟩
  rw [HCN.out] at hdn hln hQ ⊢
  have h48 : 48 ≤ cn := by simp at hdn; omega
  have h57 : cn ≤ 57 := by simp at hdn; omega
  have b1 : ((cn : Int) == 32) = false := by simp; omega
  have b2 : ((cn : Int) == 9) = false := by simp; omega
  have b3 : ((cn : Int) == 10) = false := by simp; omega
  have b4 : ((cn : Int) == 13) = false := by simp; omega
  have b5 : ((cn : Int) == 45) = false := by simp; omega
  have LET := fun W => letter_any (w := W) (cn : Int)
  have hlf : ((decide (97 ≤ cn) && decide (cn ≤ 122)) || (decide (65 ≤ cn) && decide (cn ≤ 90)) || decide (cn = 95)) = false := by simp; omega
  rw [letB, hlf] at LET
  have NUM := fun W => number_any (w := W) s i (by omega) (by omega)
  have hnl : i + numLen (s.drop i) ≤ N := numLen_le hN (by omega)
  obtain ⟨L, HL⟩ : ∃ L, Hid (numLen (s.drop i) = L) := ⟨_, rfl⟩
  rw [HL.out] at NUM hQ hnl
  have HLet : Hid (∀ W, Calls Tryz.prog 91 #[.int .i32 cn] W fun e w' => e = .returned (.bool false) ∧ w' = W) := LET
  have HNum : Hid (∀ W, Calls Tryz.prog 94 #[sv s, .int .i64 i] W fun e w' => e = .returned (.int .i64 ((i + L : Nat) : Int)) ∧ w' = W) := NUM
  have hcut : ∀ w, (Instr.sliceAt 9 (sv s) (some (.int .i64 (i : Int))) (some (.int .i64 ((i + L : Nat) : Int))) none).run Tryz.prog w = .ok (sv ((s.drop i).take L)) w := by
    intro w
    rw [run_cut s (i := i) (j := i + L) rfl rfl (by omega) (by omega) w]
    congr 3
    omega
  obtain ⟨X, HX⟩ : ∃ X, Hid ((s.drop i).take L = X) := ⟨_, rfl⟩
  rw [HX.out] at hcut hQ
  have hXl : X.length ≤ 4096 := by rw [← HX.out, List.length_take, List.length_drop]; omega
  have PARSE : Hid (∀ W, Calls Tryz.prog 95 #[num, sv X] W (ParsePost (parseN X) W)) := fun W => parse_all num X hXl
  have HT : Hid (Has w kt #[.int .i64 1, .int .i64 i, sv [], .int .u64 0, .int .i64 14] 132) := ht
  have dl := ht.lt
  have HQ : Hid (∀ a' W (u k : Nat), FrS (.pointer (some ⟨sx, 0, none⟩)) (sv s) v4 v5 (.int .i64 ((i + L : Nat) : Int)) (.int .i64 i) (.int .i32 cn) (.pointer (some ⟨kt, 0, none⟩)) v10 v11 v21 a' → Fr (fun _ => False) w W → ((k = 0 ∧ parseN X = some u) ∨ (k ≠ 0 ∧ u = 0 ∧ parseN X = none)) → Q .normal a' (if k = 0 then ((((W.setCell ⟨kt, 3, none⟩ (.int .u64 u)).setCell ⟨kt, 4, none⟩ (.int .i64 k)).setCell ⟨kt, 0, none⟩ (.int .i64 3)).setCell ⟨kt, 4, none⟩ (.int .i64 2)) else (((W.setCell ⟨kt, 3, none⟩ (.int .u64 u)).setCell ⟨kt, 4, none⟩ (.int .i64 k)).setCell ⟨kt, 4, none⟩ (.int .i64 2)))) := hQ
  have HP : Hid (∀ c a t v w, Q (.panic c) (a.put (some t) v) w → Q (.panic c) a w) := hP
  have g0 : ∀ z : WK w kt, z.y.cell? ⟨sx, 0, none⟩ = some num := fun z => z.cell hsx hxt
  have HNE : Nonempty (WK w kt) := WK.non w kt
  clear hQ H LET NUM hc hN ht hd hln hdn hlf hP hXl
  obtain ⟨E, HE⟩ : ∃ E : Nat, Hid (i + L = E) := ⟨_, rfl⟩
  rw [HE.out] at hcut HQ HNum hnl
  simp only [scanSw, scanP7, scanL, cdR, cdL, cdIn, Tryz.f60, Option.getD_some]
  go_wp2_with fail
  refine (HLet.out _).mono ?_
  rintro e' w1 ⟨rfl, hw1⟩
  subst hw1
  go_wp2_with fail
  refine (HNum.out _).mono ?_
  rintro e' w2 ⟨rfl, hw2⟩
  subst hw2
  go_wp2_with fail
  refine wp_region_plan [0, 1, 2, 3, 4, 5, 6, 7] (.one 8 (.quiet [9, 10, 11] .done)) 12 (fun x => ∃ z : WK w2 kt, x = z.y) (by kernel_rfl) (by kernel_rfl) (fun c a t v w h => HP.out c a t v w h) ⟨⟨_, (Fr.refl _ _).drew⟩, rfl⟩ [_, _, _, _, _, _, _, _] rfl _ rfl ?_
  simp only [List.getElem_toArray, List.getElem_cons_succ, List.getElem_cons_zero, List.drop_succ_cons, List.drop_zero, List.length_cons, List.length_nil, Nat.zero_add]
  repeat go_big_quiet_step (fail)
  refine wpQuiet_nil ?_
  clear g0
  refine ⟨fun a' a W => ∃ (u : Nat) (k : Nat), a = ((((a'.put (some 131) (.tuple #[.int .u64 u, .int .i64 k])).put (some 122) (.tuple #[.int .u64 u, .int .i64 k])).put (some 132) (.int .u64 u)).put (some 133) (.int .i64 k)) ∧ Fr (fun _ => False) w2 W ∧ ((k = 0 ∧ parseN X = some u) ∨ (k ≠ 0 ∧ u = 0 ∧ parseN X = none)), ?_, ?_⟩
  · rintro a W hSW ⟨u, k, rfl, f4, hk⟩
    clear hSW HNE
    have hT := HT.out.fr f4 (fun x => x)
    have HF4 : Hid (Fr (fun _ => False) w2 W) := f4
    have F0 : Hid (Fr (fun k => k = kt) w2 W) := f4.weaken (fun _ _ x => x.elim)
    have F1 : Hid (Fr (fun k => k = kt) w2 (W.setCell ⟨kt, 3, none⟩ (.int .u64 u))) := Fr.setCell (S := fun k => k = kt) (f4.weaken (fun _ _ x => x.elim)) (p := ⟨kt, 3, none⟩) (.inl rfl) _
    have F2 : Hid (Fr (fun k => k = kt) w2 ((W.setCell ⟨kt, 3, none⟩ (.int .u64 u)).setCell ⟨kt, 4, none⟩ (.int .i64 k))) := Fr.setCell (S := fun k => k = kt) F1.out (p := ⟨kt, 4, none⟩) (.inl rfl) _
    have t1 := hT.put 3 (.int .u64 u)
    have t2 := t1.put 4 (.int .i64 k)
    have t3 := t2.put 0 (.int .i64 3)
    have d3 := hT.cell 3
    have z3 := hT.frozen 3
    have d4 := t1.cell 4
    have z4 := t1.frozen 4
    have x4 := t2.cell 4
    have x0 := t2.cell 0
    have y4 := t2.frozen 4
    have y0 := t2.frozen 0
    have q4 := t3.cell 4
    have r4 := t3.frozen 4
    have dl2 := hT.lt
    simp only [List.setIfInBounds_toArray, List.set_cons_succ, List.set_cons_zero, List.getElem?_toArray, List.getElem?_cons_succ, List.getElem?_cons_zero] at d3 d4 x4 x0 q4
    have HK : Hid ((k = 0 ∧ parseN X = some u) ∨ (k ≠ 0 ∧ u = 0 ∧ parseN X = none)) := hk
    clear f4 hT t1 t2 t3 hk
    simp only [Act.put, List.setIfInBounds_toArray, List.set_cons_succ, List.set_cons_zero]
    unfold wpChain
    go_wp2
    refine ⟨⟨⟨_, F0.out⟩, rfl⟩, ?_⟩
    unfold wpChain
    go_wp2
    refine ⟨⟨⟨_, F1.out⟩, rfl⟩, ?_⟩
    unfold wpChain
    go_wp2
    refine ⟨⟨⟨_, F1.out⟩, rfl⟩, ?_⟩
    unfold wpChain
    go_wp2
    refine ⟨⟨⟨_, F2.out⟩, rfl⟩, ?_⟩
    rw [wpChain_zero]
    by_cases hk0 : k = 0
    · have FIN := fun a' h => HQ.out a' W u k h HF4.out HK.out
      rw [if_pos hk0] at FIN
      have hk2 : ((k : Int) == 0) = true := by simp [hk0]
      clear hk0
      have HFIN : Hid (∀ a' : Act, FrS (.pointer (some ⟨sx, 0, none⟩)) (sv s) v4 v5 (.int .i64 (E : Int)) (.int .i64 i) (.int .i32 cn) (.pointer (some ⟨kt, 0, none⟩)) v10 v11 v21 a' → Q .normal a' ((((W.setCell ⟨kt, 3, none⟩ (.int .u64 u)).setCell ⟨kt, 4, none⟩ (.int .i64 k)).setCell ⟨kt, 0, none⟩ (.int .i64 3)).setCell ⟨kt, 4, none⟩ (.int .i64 2))) := FIN
      clear FIN HK HQ
      go_wp2_with fail
      exact HFIN.out _ ⟨by kernel_rfl, by kernel_rfl, by kernel_rfl, by kernel_rfl, by kernel_rfl, by kernel_rfl, by kernel_rfl, by kernel_rfl, by kernel_rfl, by kernel_rfl, by kernel_rfl, by kernel_rfl, rfl⟩
    · have FIN := fun a' h => HQ.out a' W u k h HF4.out HK.out
      rw [if_neg hk0] at FIN
      have HFIN : Hid (∀ a' : Act, FrS (.pointer (some ⟨sx, 0, none⟩)) (sv s) v4 v5 (.int .i64 (E : Int)) (.int .i64 i) (.int .i32 cn) (.pointer (some ⟨kt, 0, none⟩)) v10 v11 v21 a' → Q .normal a' (((W.setCell ⟨kt, 3, none⟩ (.int .u64 u)).setCell ⟨kt, 4, none⟩ (.int .i64 k)).setCell ⟨kt, 4, none⟩ (.int .i64 2))) := FIN
      have hk2 : ((k : Int) == 0) = false := by simp; omega
      clear FIN HK HQ
      go_wp2_with fail
      exact HFIN.out _ ⟨by kernel_rfl, by kernel_rfl, by kernel_rfl, by kernel_rfl, by kernel_rfl, by kernel_rfl, by kernel_rfl, by kernel_rfl, by kernel_rfl, by kernel_rfl, by kernel_rfl, by kernel_rfl, rfl⟩
  · intro G HG
    clear b1 b2 b3 b4 b5 hsz hsz2 hs h48 h57 hi hnl HQ HT dl hcut hsx hxt HLet HNum HP
    refine ⟨_, rfl, ?_⟩
    go_wp2_with fail
    refine (PARSE.out _).mono ?_
    intro e' w5 hp
    have hp2 : ∃ (u : Nat) (k : Nat), e' = .returned (.tuple #[.int .u64 u, .int .i64 k]) ∧ Fr (fun _ => False) w2.drew w5 ∧ ((k = 0 ∧ parseN X = some u) ∨ (k ≠ 0 ∧ u = 0 ∧ parseN X = none)) := by
      unfold ParsePost at hp
      cases hm : parseN X with
      | none => rw [hm] at hp; obtain ⟨⟨k, h1, h2⟩, h3⟩ := hp; exact ⟨0, k, h2, h3, .inr ⟨h1, rfl, rfl⟩⟩
      | some x => rw [hm] at hp; exact ⟨x, 0, hp.1, hp.2, .inl ⟨rfl, rfl⟩⟩
    obtain ⟨u, k, rfl, f5, hk⟩ := hp2
    have HKK : Hid ((k = 0 ∧ parseN X = some u) ∨ (k ≠ 0 ∧ u = 0 ∧ parseN X = none)) := hk
    have f6 : Fr (fun _ => False) w2 w5 := ((Fr.refl _ w2).drew).trans f5 (fun _ _ x => x)
    have HF6 : Hid (Fr (fun _ => False) w2 w5) := f6
    have HF7 : Hid (Fr (fun k => k = kt) w2 w5) := f6.weaken (fun _ _ x => x.elim)
    clear f5 f6 hp hk
    go_wp2_with fail
    refine ⟨⟨⟨_, HF7.out⟩, rfl⟩, [_, _, _], rfl, ?_⟩
    simp only [List.getElem_toArray, List.getElem_cons_succ, List.getElem_cons_zero]
    repeat go_big_quiet_step (fail)
    refine wpQuiet_nil ?_
    show G _ _
    rw [HG.out]
    exact ⟨u, k, rfl, HF6.out, HKK.out⟩
end
end Go.Proofs.Qxb6500574aGreatDoor
