/-
  THE WALKS of table: Count, Len.
-/
import Derived.Test.Qxb6500574aGreatDoorVFind
namespace Go.Proofs.Qxb6500574aGreatDoor
open Go Go.RowKit
set_option linter.unusedVariables false
set_option linter.unusedSimpArgs false

section
variable {w : World} {o : Nat → Nat} {bt bn n h g : Nat} {s : Sl} {xs : List (TabD × TbL)} {t : TabD} {l : TbL}
set_option maxRecDepth 100000
set_option maxHeartbeats 600000
theorem count_any (r : TabsRep w o bt bn s n xs) : Calls Tryz.prog 147 #[.pointer (some ⟨bt, 0, none⟩)] w fun e w' => e = .returned (.int .i64 n) ∧ w' = w := by
  have b2 := r.here.has.cell 2
  simp only [List.getElem?_toArray, List.getElem?_cons_zero, List.getElem?_cons_succ] at b2
  have hbt := r.here.has.lt
  clear r
  go_enter Tryz.func147, Tryz.ntmps147
  go_wp2
  go_ret
  exact ⟨rfl, rfl⟩
theorem lenL_cons (t : TabD) (arr : List Nat) (i : Nat) {p : Nat} (h : arr[i]? = some p) : lenL t (arr.drop i) i = if isNilV (t.order.getD p (nilV, nilV)).2 then i else lenL t (arr.drop (i + 1)) (i + 1) := by
  have hi := (List.getElem?_eq_some_iff.1 h).1
  rw [List.drop_eq_getElem_cons hi]
  have e : arr[i] = p := (List.getElem?_eq_some_iff.1 h).2
  rw [e]
  rfl
theorem len_any (r : TabsRep w o bt bn s n xs) (hx : xs[h]? = some (t, l)) (hf : TFit t) (hn : h < n) (hn12 : n ≤ 12) :
    Calls Tryz.prog 313 #[.pointer (some ⟨bt, 0, none⟩), .int .i64 h] w fun e w' => e = .returned (.tuple #[.int .i64 t.len, .int .i64 0]) ∧ Fr (fun _ => False) w w' := by
  obtain ⟨g, ga, gcap, _, gl, gc, gf⟩ := r.at hx
  have b1 := r.here.has.cell 1
  have b2 := r.here.has.cell 2
  simp only [List.getElem?_toArray, List.getElem?_cons_zero, List.getElem?_cons_succ, Sl.v, ga] at b1 b2
  have hbt := r.here.has.lt
  have hxl := (List.getElem?_eq_some_iff.1 hx).1
  have c0 := gc 0 (by omega)
  have c1 := gc 1 (by omega)
  have c5 := gc 5 (by omega)
  simp only [tbCells, List.getElem?_cons_zero, List.getElem?_cons_succ, Sl.v] at c0 c1 c5
  rw [Nat.add_zero] at c0
  have hx12 : n ≤ xs.length := r.le
  have hal := hf.al
  have hol := hf.ol
  have hh1 : ¬ ((h : Int) < 0) := by omega
  have hh2 : ¬ ((n : Int) ≤ (h : Int)) := by omega
  have HD : Hid (Row w o (100 + 5 * h) 259 6 l.ord t.order.length (t.order.flatMap eCells)) := (r.one h _ hx).ord
  have HA : Hid (Row w o (101 + 5 * h) 21 1 l.arr t.arr.length (t.arr.flatMap aCells)) := (r.one h _ hx).arr
  have HF : Hid (TFit t) := hf
  have HL : Hid (t.len = if t.dead = 0 then t.arr.length else lenL t t.arr 0) := rfl
  clear gc gf r hx hf
  obtain ⟨N, HN⟩ : ∃ N : Nat, Hid (xs.length = N) := ⟨_, rfl⟩
  rw [HN.out] at b1 gcap hxl hx12
  obtain ⟨K, HK⟩ : ∃ K : Nat, Hid (t.arr.length = K) := ⟨_, rfl⟩
  rw [HK.out] at c1 hal HL HA
  obtain ⟨M, HM⟩ : ∃ M : Nat, Hid (t.order.length = M) := ⟨_, rfl⟩
  rw [HM.out] at c0 hol
  obtain ⟨R, HR⟩ : ∃ R : Nat, Hid (t.len = R) := ⟨_, rfl⟩
  rw [HR.out] at HL ⊢
  by_cases hd : t.dead = 0
  · have HL' : Hid (R = K) := HL.out.trans (if_pos hd)
    rw [hd] at c5
    clear HL hd
    go_enter Tryz.func313, Tryz.ntmps313
    go_wp2
    go_ret2
    rw [HL'.out]
    exact ⟨rfl, Fr.refl _ _⟩
  · have HL' : Hid (R = lenL t t.arr 0) := HL.out.trans (if_neg hd)
    have hd2 : ((t.dead : Int) == 0) = false := by rw [beq_eq_false_iff_ne]; omega
    clear HL hd
    by_cases hK0 : K = 0
    · subst hK0
      have HJ2 : Hid (R = 0) := by
        have h0 : t.arr = [] := List.eq_nil_of_length_eq_zero HK.out
        rw [h0] at HL'
        exact HL'.out
      clear HL'
      go_enter Tryz.func313, Tryz.ntmps313
      go_wp2
      go_loopw [40] (fun v wr => v = .int .i64 0 ∧ wr = w) (fun v _ => 0)
      case atStart => exact ⟨rfl, rfl⟩
      case round =>
        obtain ⟨rfl, rfl⟩ := hrel
        go_wp2
        go_ret2
        rw [HJ2.out]
        exact ⟨rfl, Fr.refl _ _⟩
    obtain ⟨gr, a1, a2, a3, a4, a5, a6⟩ := HA.out.cells (by omega)
    rw [a1] at c1
    have HA5 : Hid (∀ j, j < K * 1 → w.cell? ⟨gr, j, none⟩ = (t.arr.flatMap aCells)[j]?) := a5
    clear a1 a5 a6 HA
    go_enter Tryz.func313, Tryz.ntmps313
    go_wp2
    go_loopw [40] (fun v wr => ∃ j : Nat, j ≤ K ∧ v = .int .i64 j ∧ Hid (R = lenL t (t.arr.drop j) j) ∧ Hid (Fr (fun _ => False) w wr)) (fun v _ => K - (intOf v).toNat)
    case atStart => exact ⟨0, Nat.zero_le _, rfl, HL', Fr.refl _ _⟩
    case round =>
      obtain ⟨j, hj, rfl, HJ, G⟩ := hrel
      have d0 := G.out.cell c0
      have d1 := G.out.cell c1
      by_cases hjl : j < K
      · obtain ⟨p, hp⟩ : ∃ p, t.arr[j]? = some p := ⟨_, List.getElem?_eq_getElem (by rw [HK.out]; exact hjl)⟩
        have a7 := HA5.out j (by omega)
        have a8 := flatMap_at _ 1 aCells_len t.arr j 0 p hp (by omega)
        rw [Nat.mul_one, Nat.add_zero] at a8
        rw [a8] at a7
        simp only [aCells, List.getElem?_cons_zero] at a7
        have a7' := G.out.cell a7
        have hpl := HF.out.ap p (List.mem_of_getElem? hp)
        obtain ⟨e1, e2⟩ : ∃ e : Vl × Vl, t.order[p]? = some e := ⟨_, List.getElem?_eq_getElem hpl⟩
        obtain ⟨go, o1, o2, o3, o4, o5, o6⟩ := HD.out.cells (show 0 < t.order.length by omega)
        have v0 := G.out.cell ((o5 (p * 6 + 3) (show _ < t.order.length * 6 by omega)).trans (flatMap_at _ 6 eCells_len t.order p 3 _ e2 (by omega)))
        have v1 := G.out.cell ((o5 (p * 6 + 4) (show _ < t.order.length * 6 by omega)).trans (flatMap_at _ 6 eCells_len t.order p 4 _ e2 (by omega)))
        have v2 := G.out.cell ((o5 (p * 6 + 5) (show _ < t.order.length * 6 by omega)).trans (flatMap_at _ 6 eCells_len t.order p 5 _ e2 (by omega)))
        rw [o1] at d0
        rw [HM.out] at hpl o2
        have I1 : ∀ W, Calls Tryz.prog 138 #[.agg #[.int .i64 e1.2.t, .int .u64 e1.2.n, sv e1.2.s]] W fun e w' => e = .returned (.bool (isNilV e1.2)) ∧ Fr (fun _ => False) W w' := fun W => isNil_any e1.2
        have hJ2 := HJ.out.trans (lenL_cons t t.arr j hp)
        simp only [List.getD_eq_getElem?_getD, e2, Option.getD_some] at hJ2
        have hgr : gr < wr.heap.size := Nat.lt_of_lt_of_le a4 G.out.size
        have hgo : go < wr.heap.size := Nat.lt_of_lt_of_le o4 G.out.size
        have hgl : g < wr.heap.size := Nat.lt_of_lt_of_le gl G.out.size
        clear a7 a8 o5 o6 e2 hp HJ o1
        cases hB : isNilV e1.2
        · rw [hB] at I1 hJ2
          have HJ : Hid (R = lenL t (t.arr.drop (j + 1)) (j + 1)) := hJ2
          clear hJ2
          go_wp2_with fail
          refine (I1 _).mono ?_
          rintro e w1 ⟨rfl, hw1⟩
          go_wp2
          go_roundw
          case rel => exact ⟨j + 1, by omega, by go_num, HJ, G.out.trans hw1 (fun _ _ x => x)⟩
          case measure => simp [intOf]; omega
        · rw [hB] at I1 hJ2
          have HJ : Hid (R = j) := hJ2
          clear hJ2
          go_wp2_with fail
          refine (I1 _).mono ?_
          rintro e w1 ⟨rfl, hw1⟩
          go_wp2
          go_ret2
          rw [HJ.out]
          exact ⟨rfl, G.out.trans hw1 (fun _ _ x => x)⟩
      · have hjk : j = K := by omega
        subst hjk
        have HJ2 : Hid (R = j) := by
          have := HJ.out
          rw [← HK.out, List.drop_length] at this
          rw [← HK.out]
          exact this
        clear HJ
        go_wp2
        go_ret2
        rw [HJ2.out]
        exact ⟨rfl, G.out⟩
end
end Go.Proofs.Qxb6500574aGreatDoor
