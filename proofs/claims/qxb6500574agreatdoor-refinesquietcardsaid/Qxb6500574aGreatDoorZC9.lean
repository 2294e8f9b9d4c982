/-
  THE WALKS of compm: find, call.
-/
import Derived.Test.Qxb6500574aGreatDoorZC8
namespace Go.Proofs.Qxb6500574aGreatDoor
open Go Go.RowKit
set_option linter.unusedVariables false
set_option linter.unusedSimpArgs false
theorem findE_more {E : List EnD} {s : Bs} (hu : ∀ (i : Nat) (e : EnD), E[i]? = some e → ∀ j, e.up = some j → j < i) : ∀ (k : Nat) (e : Option Nat), (∀ i, e = some i → i < k ∧ i < E.length) → findE E s (k + 1) e = findE E s k e
  | 0, none, _ => rfl
  | 0, some i, h => absurd (h i rfl).1 (Nat.not_lt_zero i)
  | k + 1, none, _ => rfl
  | k + 1, some i, h => by
    have hi := h i rfl
    unfold findE
    have hg : E[i]? = some (E.getD i en0) := by rw [List.getD_eq_getElem?_getD, List.getElem?_eq_getElem hi.2]; rfl
    rw [findE_more hu k (E.getD i en0).up (fun j hj => by have := hu i _ hg j hj; omega)]
theorem findE_full {E : List EnD} {s : Bs} (hu : ∀ (i : Nat) (e : EnD), E[i]? = some e → ∀ j, e.up = some j → j < i) {i : Nat} (hi : i < E.length) : findE E s (E.length + 1) (some i) = if (E.getD i en0).nm = s then some i else findE E s (E.length + 1) (E.getD i en0).up := by
  have hg : E[i]? = some (E.getD i en0) := by rw [List.getD_eq_getElem?_getD, List.getElem?_eq_getElem hi]; rfl
  have e1 : findE E s (E.length + 1) (some i) = if (E.getD i en0).nm = s then some i else findE E s E.length (E.getD i en0).up := rfl
  rw [e1, findE_more hu E.length (E.getD i en0).up (fun j hj => by have := hu i _ hg j hj; omega)]
section
variable {w W W1 : World} {A A1 : RnP} {N : List Nd} {root : Nat} {M : MD}
set_option maxRecDepth 100000
set_option maxHeartbeats 1000000
theorem find_m (R : MRep W A1 N root M) (hu : ∀ (i : Nat) (e : EnD), M.envs[i]? = some e → ∀ j, e.up = some j → j < i) (e : Option Nat) (he : ∀ i, e = some i → i < M.envs.length) (s : Bs) :
    Calls Tryz.prog 117 #[.pointer (eAd A1.E e), sv s] W fun e' w' => e' = .returned (.pointer (eAd A1.E (M.find e s))) ∧ w' = W := by
  obtain ⟨R0, HR0⟩ : ∃ R0, Hid (M.find e s = R0) := ⟨_, rfl⟩
  rw [HR0.out]
  have HR := hid R
  have HU := hid hu
  have HE := hid he
  clear R hu he
  go_enter Tryz.func117, Tryz.ntmps117
  go_wp2_with fail
  obtain ⟨n0, HN0⟩ : ∃ n0, Hid (M.envs.length + 1 = n0) := ⟨_, rfl⟩
  go_loopg [0] n0 (fun n v0 wr => ∃ e1 : Option Nat, v0 = .pointer (eAd A1.E e1) ∧ wr = W ∧ Hid ((∀ i, e1 = some i → i < M.envs.length ∧ i < n) ∧ findE M.envs s (M.envs.length + 1) e1 = R0))
  case atStart => exact ⟨e, rfl, rfl, ⟨fun i hi => ⟨HE.out i hi, by rw [← HN0.out]; have := HE.out i hi; omega⟩, HR0.out⟩⟩
  case round =>
    obtain ⟨e1, rfl, rfl, HI⟩ := hrel
    cases e1 with
    | none =>
      have HZ : Hid (R0 = none) := HI.out.2.symm
      have e0 : eAd A1.E none = none := rfl
      rw [e0]
      go_wp2_with fail
      go_ret
      exact ⟨by rw [HZ.out]; rfl, rfl⟩
    | some i =>
      obtain ⟨hi1, hi2⟩ := HI.out.1 i rfl
      have hI := HI.out.2
      rw [findE_full HU.out hi1] at hI
      have hg : M.envs[i]? = some (M.envs.getD i en0) := by rw [List.getD_eq_getElem?_getD, List.getElem?_eq_getElem hi1]; rfl
      have B := HR.out.env i _ hg
      have c0 := B.has.cell 0
      have c4 := B.has.cell 4
      simp only [enV, List.getElem?_toArray, List.getElem?_cons_zero, List.getElem?_cons_succ] at c0 c4
      have lb := B.has.lt
      have e0 : eAd A1.E (some i) = some ⟨A1.E.getD i 0, 0, none⟩ := rfl
      have HEA := hid e0
      rw [e0]
      have HG := hid hg
      clear B hg e0
      obtain ⟨eb, HEB⟩ : ∃ eb, Hid (A1.E.getD i 0 = eb) := ⟨_, rfl⟩
      rw [HEB.out] at c0 c4 lb HEA ⊢
      obtain ⟨en, HEN⟩ : ∃ en, Hid (M.envs.getD i en0 = en) := ⟨_, rfl⟩
      rw [HEN.out] at c0 c4 HG hI
      by_cases hnm : en.nm = s
      · rw [if_pos hnm] at hI
        rw [hnm] at c0
        have HZ := hid hI
        clear hI hnm
        go_wp2_with fail
        go_ret
        exact ⟨by rw [← HZ.out, HEA.out]; rfl, rfl⟩
      · rw [if_neg hnm] at hI
        have HZ := hid hI
        have hb : (en.nm == s) = false := by simpa using hnm
        have hb2 : (en.nm != s) = true := by simpa using hnm
        clear hI
        obtain ⟨m', rfl⟩ : ∃ m', gk = m' + 1 := ⟨gk - 1, by omega⟩
        go_wp2_with fail
        go_roundg m'
        case measure => omega
        case rel => exact ⟨en.up, rfl, rfl, ⟨fun j hj => by have := HU.out i en HG.out j hj; omega, HZ.out⟩⟩
theorem argsL_len (N : List Nd) : ∀ (k a : Nat), (argsL N k a).length ≤ k
  | 0, a => Nat.zero_le _
  | k + 1, a => by
    unfold argsL
    split
    · simp
    · simp; exact argsL_len N k _
/-- so many arguments are laid out -/
def CaI (N : List Nd) (b k a x0 x1 x2 : Nat) : Prop := k ≤ 3 ∧ (a = 0 ∨ a < N.length) ∧ argsL N 3 b = ([x0, x1, x2].take k) ++ argsL N (3 - k) a
theorem CaI.next {N : List Nd} {b k a x0 x1 x2 : Nat} (h : CaI N b k a x0 x1 x2) (ha : a ≠ 0) (hk : k < 3) (hn : ∀ n, n < N.length → (N.getD n nd0).next = 0 ∨ (N.getD n nd0).next < N.length) :
    (k = 0 → CaI N b 1 (N.getD a nd0).next a x1 x2) ∧ (k = 1 → CaI N b 2 (N.getD a nd0).next x0 a x2) ∧ (k = 2 → CaI N b 3 (N.getD a nd0).next x0 x1 a) := by
  obtain ⟨h1, h2, h3⟩ := h
  have ha2 := hn a (h2.resolve_left ha)
  refine ⟨fun e => ?_, fun e => ?_, fun e => ?_⟩ <;> subst e <;> refine ⟨by omega, ha2, ?_⟩ <;> rw [h3] <;> simp [argsL, ha]
theorem CaI.full {N : List Nd} {b k a x0 x1 x2 : Nat} (h : CaI N b k a x0 x1 x2) (ha : a = 0 ∨ k = 3) : argsL N 3 b = [x0, x1, x2].take k ∧ (argsL N 3 b).length = k := by
  obtain ⟨h1, h2, h3⟩ := h
  have e : argsL N (3 - k) a = [] := by
    rcases ha with ha | ha
    · subst ha
      cases h9 : 3 - k with
      | zero => rfl
      | succ j => unfold argsL; rw [if_pos rfl]
    · rw [show 3 - k = 0 by omega]; rfl
  rw [e, List.append_nil] at h3
  refine ⟨h3, ?_⟩
  rw [h3]
  simp
  omega
theorem call_m (B : RB w A N root W A1 M) (hl : M.th.tasks.length ≤ 999990) (n : Nat) (hn : n < N.length) (hb : (N.getD n nd0).b < N.length) (hnx : ∀ n, n < N.length → (N.getD n nd0).next = 0 ∨ (N.getD n nd0).next < N.length) (hN : N.length ≤ 1000) (e : Option Nat) (he : ∀ i, e = some i → i < A.E.length) {n' : Int} (hn' : n' = n) :
    Calls Tryz.prog 187 #[.pointer (some ⟨A.br, 0, none⟩), .int .i64 n', .pointer (eAd A.E e)] W (RBQ w A N root W A1 (M.call N n e)) := by
  subst hn'
  obtain ⟨Q, HQ⟩ : ∃ Q : Ending → World → Prop, Hid (RBQ w A N root W A1 (M.call N n e) = Q) := ⟨_, rfl⟩
  rw [HQ.out]
  obtain ⟨g, c, D⟩ := B.nd hn
  obtain ⟨c2, lc, lb, lg, ln, d0, d1, d2, d3, d4, d5, d6, d7⟩ := D
  have HB := hid B
  have HE := hid he
  have HL := hid hl
  have HNX := hid hnx
  have HBN := hid hb
  have HNL := hid hn
  clear B he hl hnx hb d0 d1 d3 d4 d5 d6 d7
  obtain ⟨ea, HEA⟩ : ∃ ea, Hid (eAd A.E e = ea) := ⟨_, rfl⟩
  rw [HEA.out]
  obtain ⟨NL, HLL⟩ : ∃ NL : Nat, Hid (N.length = NL) := ⟨_, rfl⟩
  obtain ⟨fb, HFB⟩ : ∃ fb : Nat, Hid ((N.getD n nd0).b = fb) := ⟨_, rfl⟩
  obtain ⟨fa, HFA⟩ : ∃ fa : Nat, Hid ((N.getD n nd0).a = fa) := ⟨_, rfl⟩
  rw [HLL.out] at c2 lc ln hN hn
  rw [HFB.out] at d2 HBN
  have HI0 : Hid (CaI N fb 0 fb 0 0 0) := ⟨by omega, .inr HBN.out, rfl⟩
  have HM : Hid (M.call N n e = M.todo (⟨2, fa, 0, e⟩ :: (argsL N 3 fb).map (fun x => ⟨2, x, 0, e⟩) ++ [⟨22, n, (argsL N 3 fb).length, e⟩])) := by
    show _ = _
    rw [← HFB.out, ← HFA.out]
    rfl
  have LA : Hid (∀ x0 x1 x2 : Nat, LcB (W.alloc (.cells #[.int .i64 x0, .int .i64 x1, .int .i64 x2] 410)) A1 W.heap.size #[.int .i64 x0, .int .i64 x1, .int .i64 x2] 410) := fun x0 x1 x2 => LcB.new HB.out.r.own _ _
  go_enter Tryz.func187, Tryz.ntmps187
  go_wp2_with fail
  go_loopw [7, 8] (fun g7 g8 wr => ∃ k a x0 x1 x2 : Nat, g7 = .int .i64 k ∧ g8 = .int .i64 a ∧ wr = W.alloc (.cells #[.int .i64 x0, .int .i64 x1, .int .i64 x2] 410) ∧ Hid (CaI N fb k a x0 x1 x2)) (fun g7 _ _ => 3 - (intOf g7).toNat)
  case atStart => exact ⟨0, fb, 0, 0, 0, rfl, rfl, rfl, HI0⟩
  case round =>
    obtain ⟨k, a, x0, x1, x2, rfl, rfl, rfl, HI⟩ := hrel
    have hk3 := HI.out.1
    by_cases ha : a = 0 ∨ k = 3
    · -- the arguments are known
      obtain ⟨hA, hAL⟩ := HI.out.full ha
      have hbk : ((a : Int) != 0) = false ∨ ((a : Int) != 0) = true ∧ k = 3 := by
        rcases ha with z | z
        · left; rw [z]; rfl
        · by_cases z0 : a = 0
          · left; rw [z0]; rfl
          · right; exact ⟨by rw [bne_iff_ne]; omega, z⟩
      have B0 := HB.out.fresh ((Fr.refl (fun _ => False) W).alloc (.cells #[.int .i64 x0, .int .i64 x1, .int .i64 x2] 410))
      have S0 := MSt.fresh A1 ((Fr.refl (fun _ => False) W).alloc (.cells #[.int .i64 x0, .int .i64 x1, .int .i64 x2] 410))
      have L0 := LA.out x0 x1 x2
      have C1 := B0.todo (by have := HL.out; omega) 22 n k e HE.out (k' := 22) rfl rfl rfl
      rw [HEA.out] at C1
      have HC1 := hid C1
      have HL0 := hid L0
      have HS0 := hid S0
      have HA := hid hA
      have HAL := hid hAL
      clear C1 L0 S0 B0 hA hAL HI c2 d2 LA HI0
      generalize W.alloc (.cells #[.int .i64 x0, .int .i64 x1, .int .i64 x2] 410) = W' at *
      rcases hbk with z | ⟨z, rfl⟩
      · clear ha
        go_wp2_with fail
        refine HC1.out.mono ?_
        rintro e1 w2 ⟨rfl, A2, B2, S2⟩
        have HB2 := hid B2
        have HS2 := hid (HS0.out.trans S2)
        have HL2 := hid (HL0.out.st S2)
        clear B2 S2 z
        go_wp2_with fail
        have HI2 : Hid (∃ A3, RB w A N root w2 A3 (M.todo (((argsL N 3 fb).drop k).map (fun x => ⟨2, x, 0, e⟩) ++ [⟨22, n, k, e⟩])) ∧ MSt W A1 w2 A3 ∧ LcB w2 A3 W.heap.size #[.int .i64 x0, .int .i64 x1, .int .i64 x2] 410) := by
          refine ⟨A2, ?_, HS2.out, HL2.out⟩
          rw [List.drop_eq_nil_of_le (by rw [HAL.out]; exact Nat.le_refl _)]
          exact HB2.out
        clear HB2 HS2 HL2 HC1 HL0 HS0
        generalize W.heap.size = B at *
        go_loopg [9] k (fun j v9 wr => v9 = .int .i64 ((j : Int) - 1) ∧ Hid (j ≤ k ∧ ∃ A3, RB w A N root wr A3 (M.todo (((argsL N 3 fb).drop j).map (fun x => ⟨2, x, 0, e⟩) ++ [⟨22, n, k, e⟩])) ∧ MSt W A1 wr A3 ∧ LcB wr A3 B #[.int .i64 x0, .int .i64 x1, .int .i64 x2] 410))
        case atStart => exact ⟨rfl, Nat.le_refl _, HI2.out⟩
        case round =>
          obtain ⟨rfl, HJ⟩ := hrel
          obtain ⟨hj, A3, B3, S3, L3⟩ := HJ.out
          have hlen : (M.todo (((argsL N 3 fb).drop gk).map (fun x => ⟨2, x, 0, e⟩) ++ [⟨22, n, k, e⟩])).th.tasks.length ≤ 999999 := by
            rw [th_todo HB.out.c]
            have := HL.out
            have h9 := argsL_len N 3 fb
            simp
            omega
          cases gk with
          | zero =>
            obtain ⟨g9, c9, D9⟩ := B3.nd (n := n) HNL.out
            obtain ⟨e1, e2, e3, e4, e5, e6, e7, e8, e9, e10, e11, e12, e13⟩ := D9
            rw [HLL.out] at e1 e2 e5
            rw [HFA.out] at e7
            have C3 := B3.todo (by omega) 2 fa 0 e HE.out (k' := 2) (x' := 0) rfl rfl rfl
            rw [HEA.out] at C3
            have HC3 := hid C3
            have HS3 := hid S3
            have hz : (((0 : Nat) : Int) - 1) = -1 := by omega
            rw [hz]
            clear C3 B3 S3 L3 hlen e6 e8 e9 e10 e11 e12 e13 HJ HI2
            go_wp2_with fail
            refine HC3.out.mono ?_
            rintro e14 w5 ⟨rfl, A5, B5, S5⟩
            have FIN : Hid (Q (.returned (.tuple #[])) w5) := by
              show Q _ _
              rw [← HQ.out, HM.out, HAL.out]
              rw [todo_todo HB.out.c, List.drop_zero] at B5
              exact ⟨rfl, A5, B5, HS3.out.trans S5⟩
            clear B5 S5 e1 e2 e3 e4 e5 e7
            go_wp2
            go_end0
            exact FIN.out
          | succ j =>
            have hjk : j < 3 := by omega
            obtain ⟨xj, hxj⟩ : ∃ xj, (argsL N 3 fb)[j]? = some xj := ⟨(argsL N 3 fb)[j]'(by rw [HAL.out]; omega), by simp⟩
            have hdr : (argsL N 3 fb).drop j = xj :: (argsL N 3 fb).drop (j + 1) := by
              obtain ⟨h1, h2⟩ := List.getElem?_eq_some_iff.1 hxj
              rw [List.drop_eq_getElem_cons h1, h2]
            have hxj3 : [x0, x1, x2][j]? = some xj := by
              rw [HA.out, List.getElem?_take, if_pos (by omega)] at hxj
              exact hxj
            have C3 := B3.todo (by omega) 2 xj 0 e HE.out (k' := 2) (x' := 0) rfl rfl rfl
            rw [HEA.out, todo_todo HB.out.c] at C3
            have HC3 : Hid (Calls Tryz.prog 112 #[.pointer (some ⟨A.br, 0, none⟩), .int .i64 2, .int .i64 xj, .int .i64 0, .pointer ea] wr (RBQ w A N root wr A3 (M.todo (((argsL N 3 fb).drop j).map (fun x => ⟨2, x, 0, e⟩) ++ [⟨22, n, k, e⟩])))) := by rw [hdr]; exact C3
            have HS3 := hid S3
            have HL3 := hid L3
            have y0 := L3.h.cell 0
            have y1 := L3.h.cell 1
            have y2 := L3.h.cell 2
            simp only [List.getElem?_toArray, List.getElem?_cons_succ, List.getElem?_cons_zero] at y0 y1 y2
            have ly := L3.h.lt
            have ej : (((j + 1 : Nat) : Int) - 1) = j := by omega
            rw [ej]
            clear C3 B3 S3 L3 hlen hdr hxj HJ HI2 ej
            have hj3 : j = 0 ∨ j = 1 ∨ j = 2 := by omega
            rcases hj3 with rfl | rfl | rfl
            all_goals
              simp at hxj3
              subst hxj3
              go_wp2_with fail
              refine HC3.out.mono ?_
              rintro e14 w5 ⟨rfl, A5, B5, S5⟩
              have HB5 := hid B5
              have HS5 := hid (HS3.out.trans S5)
              have HL5 := hid (HL3.out.st S5)
              clear B5 S5 y0 y1 y2 ly
              go_wp2_with fail
            · go_roundg 0
              case measure => omega
              case rel => exact ⟨rfl, by omega, A5, HB5.out, HS5.out, HL5.out⟩
            · go_roundg 1
              case measure => omega
              case rel => exact ⟨rfl, by omega, A5, HB5.out, HS5.out, HL5.out⟩
            · go_roundg 2
              case measure => omega
              case rel => exact ⟨rfl, by omega, A5, HB5.out, HS5.out, HL5.out⟩
      · clear ha
        go_wp2_with fail
        refine HC1.out.mono ?_
        rintro e1 w2 ⟨rfl, A2, B2, S2⟩
        have HB2 := hid B2
        have HS2 := hid (HS0.out.trans S2)
        have HL2 := hid (HL0.out.st S2)
        clear B2 S2 z
        go_wp2_with fail
        have HI2 : Hid (∃ A3, RB w A N root w2 A3 (M.todo (((argsL N 3 fb).drop 3).map (fun x => ⟨2, x, 0, e⟩) ++ [⟨22, n, 3, e⟩])) ∧ MSt W A1 w2 A3 ∧ LcB w2 A3 W.heap.size #[.int .i64 x0, .int .i64 x1, .int .i64 x2] 410) := by
          refine ⟨A2, ?_, HS2.out, HL2.out⟩
          rw [List.drop_eq_nil_of_le (by rw [HAL.out]; exact Nat.le_refl _)]
          exact HB2.out
        clear HB2 HS2 HL2 HC1 HL0 HS0
        generalize W.heap.size = B at *
        go_loopg [9] 3 (fun j v9 wr => v9 = .int .i64 ((j : Int) - 1) ∧ Hid (j ≤ 3 ∧ ∃ A3, RB w A N root wr A3 (M.todo (((argsL N 3 fb).drop j).map (fun x => ⟨2, x, 0, e⟩) ++ [⟨22, n, 3, e⟩])) ∧ MSt W A1 wr A3 ∧ LcB wr A3 B #[.int .i64 x0, .int .i64 x1, .int .i64 x2] 410))
        case atStart => exact ⟨rfl, Nat.le_refl _, HI2.out⟩
        case round =>
          obtain ⟨rfl, HJ⟩ := hrel
          obtain ⟨hj, A3, B3, S3, L3⟩ := HJ.out
          have hlen : (M.todo (((argsL N 3 fb).drop gk).map (fun x => ⟨2, x, 0, e⟩) ++ [⟨22, n, 3, e⟩])).th.tasks.length ≤ 999999 := by
            rw [th_todo HB.out.c]
            have := HL.out
            have h9 := argsL_len N 3 fb
            simp
            omega
          cases gk with
          | zero =>
            obtain ⟨g9, c9, D9⟩ := B3.nd (n := n) HNL.out
            obtain ⟨e1, e2, e3, e4, e5, e6, e7, e8, e9, e10, e11, e12, e13⟩ := D9
            rw [HLL.out] at e1 e2 e5
            rw [HFA.out] at e7
            have C3 := B3.todo (by omega) 2 fa 0 e HE.out (k' := 2) (x' := 0) rfl rfl rfl
            rw [HEA.out] at C3
            have HC3 := hid C3
            have HS3 := hid S3
            have hz : (((0 : Nat) : Int) - 1) = -1 := by omega
            rw [hz]
            clear C3 B3 S3 L3 hlen e6 e8 e9 e10 e11 e12 e13 HJ HI2
            go_wp2_with fail
            refine HC3.out.mono ?_
            rintro e14 w5 ⟨rfl, A5, B5, S5⟩
            have FIN : Hid (Q (.returned (.tuple #[])) w5) := by
              show Q _ _
              rw [← HQ.out, HM.out, HAL.out]
              rw [todo_todo HB.out.c, List.drop_zero] at B5
              exact ⟨rfl, A5, B5, HS3.out.trans S5⟩
            clear B5 S5 e1 e2 e3 e4 e5 e7
            go_wp2
            go_end0
            exact FIN.out
          | succ j =>
            have hjk : j < 3 := by omega
            obtain ⟨xj, hxj⟩ : ∃ xj, (argsL N 3 fb)[j]? = some xj := ⟨(argsL N 3 fb)[j]'(by rw [HAL.out]; omega), by simp⟩
            have hdr : (argsL N 3 fb).drop j = xj :: (argsL N 3 fb).drop (j + 1) := by
              obtain ⟨h1, h2⟩ := List.getElem?_eq_some_iff.1 hxj
              rw [List.drop_eq_getElem_cons h1, h2]
            have hxj3 : [x0, x1, x2][j]? = some xj := by
              rw [HA.out, List.getElem?_take, if_pos (by omega)] at hxj
              exact hxj
            have C3 := B3.todo (by omega) 2 xj 0 e HE.out (k' := 2) (x' := 0) rfl rfl rfl
            rw [HEA.out, todo_todo HB.out.c] at C3
            have HC3 : Hid (Calls Tryz.prog 112 #[.pointer (some ⟨A.br, 0, none⟩), .int .i64 2, .int .i64 xj, .int .i64 0, .pointer ea] wr (RBQ w A N root wr A3 (M.todo (((argsL N 3 fb).drop j).map (fun x => ⟨2, x, 0, e⟩) ++ [⟨22, n, 3, e⟩])))) := by rw [hdr]; exact C3
            have HS3 := hid S3
            have HL3 := hid L3
            have y0 := L3.h.cell 0
            have y1 := L3.h.cell 1
            have y2 := L3.h.cell 2
            simp only [List.getElem?_toArray, List.getElem?_cons_succ, List.getElem?_cons_zero] at y0 y1 y2
            have ly := L3.h.lt
            have ej : (((j + 1 : Nat) : Int) - 1) = j := by omega
            rw [ej]
            clear C3 B3 S3 L3 hlen hdr hxj HJ HI2 ej
            have hj3 : j = 0 ∨ j = 1 ∨ j = 2 := by omega
            rcases hj3 with rfl | rfl | rfl
            all_goals
              simp at hxj3
              subst hxj3
              go_wp2_with fail
              refine HC3.out.mono ?_
              rintro e14 w5 ⟨rfl, A5, B5, S5⟩
              have HB5 := hid B5
              have HS5 := hid (HS3.out.trans S5)
              have HL5 := hid (HL3.out.st S5)
              clear B5 S5 y0 y1 y2 ly
              go_wp2_with fail
            · go_roundg 0
              case measure => omega
              case rel => exact ⟨rfl, by omega, A5, HB5.out, HS5.out, HL5.out⟩
            · go_roundg 1
              case measure => omega
              case rel => exact ⟨rfl, by omega, A5, HB5.out, HS5.out, HL5.out⟩
            · go_roundg 2
              case measure => omega
              case rel => exact ⟨rfl, by omega, A5, HB5.out, HS5.out, HL5.out⟩
    · have ha0 : a ≠ 0 := fun z => ha (.inl z)
      have hk : k < 3 := by have : k ≠ 3 := fun z => ha (.inr z); omega
      have haN : a < NL := by rw [← HLL.out]; exact HI.out.2.1.resolve_left ha0
      obtain ⟨g9, c9, D9⟩ := HB.out.nd (n := a) (by rw [HLL.out]; exact haN)
      obtain ⟨e1, e2, e3, e4, e5, e6, e7, e8, e9, e10, e11, e12, e13⟩ := D9
      rw [HLL.out] at e1
      rw [c2] at e1
      cases e1
      have hnx := HI.out.next ha0 hk HNX.out
      have HNE := hid hnx
      have ba : ((a : Int) != 0) = true := by rw [bne_iff_ne]; omega
      have hnn : (N.getD a nd0).next < 1000000 := by have h7 := HLL.out; rcases HNX.out a (by rw [HLL.out]; exact haN) with z | z <;> omega
      obtain ⟨nx, HNXT⟩ : ∃ nx : Nat, Hid ((N.getD a nd0).next = nx) := ⟨_, rfl⟩
      rw [HNXT.out] at e10 HNE
      clear ha hnx e2 e3 e4 e5 e6 e7 e8 e9 e11 e12 e13
      have : k = 0 ∨ k = 1 ∨ k = 2 := by omega
      rcases this with rfl | rfl | rfl
      · go_wp2_with fail
        refine ⟨⟨1, nx, a, x1, x2, rfl, rfl, rfl, HNE.out.1 rfl⟩, by decide⟩
      · go_wp2_with fail
        refine ⟨⟨2, nx, x0, a, x2, rfl, rfl, rfl, HNE.out.2.1 rfl⟩, by decide⟩
      · go_wp2_with fail
        refine ⟨⟨3, nx, x0, x1, a, rfl, rfl, rfl, HNE.out.2.2 rfl⟩, by decide⟩
end
end Go.Proofs.Qxb6500574aGreatDoor
