/-
  moon: THE TABLES OF THE MODEL: the length. Plain; no memory, no walk.
-/
import Derived.Test.Qxb6500574aGreatDoorZT1
namespace Go.Proofs.Qxb6500574aGreatDoor
set_option linter.unusedVariables false
theorem keyI_u (n : Nat) : keyI n < 18446744073709551616 := nearest_lt _
theorem keyI_back {n : Nat} (h : n ≤ 32) : toIntN (keyI n) = some ((n : Int) + 1) := fromInt_back (i := n + 1) (by omega) (by omega)
theorem num_well (n : Nat) : wellV (numV n) = true := by
  unfold wellV numV
  simp
theorem one_num {X : Nat} {i : Int} (h : toIntN X = some i) (hi : i ≠ 0) : oneV (numV X) = (numV X, i) := by
  have e : oneV (numV X) = (match toIntN X with | none => (numV X, 0) | some i => if i = 0 then (⟨2, 0, []⟩, 0) else (numV X, i)) := by
    unfold oneV
    rw [if_neg (fun z => z rfl)]
    rfl
  rw [e, h]
  dsimp only
  rw [if_neg hi]
theorem TTi.lenS {t : TabD} (T : TTi t) {K : Nat → Nat} (hu : ∀ n, K n < 18446744073709551616) (hk : ∀ n, n ≤ 32 → toIntN (K n) = some ((n : Int) + 1)) : ∀ (j n : Nat), n + j = 33 → n ≤ t.arr.length → lenG t.order K j n = lenL t (t.arr.drop n) n
  | 0, n, h, hn => by
    have := T.f.al
    omega
  | j + 1, n, h, hn => by
    have al := T.f.al
    have ih := T.lenS hu hk j (n + 1)
    have hb1 := hk n (by omega)
    have hu1 := hu n
    unfold lenG
    generalize K n = X at *
    have hw := num_well X
    have ho := one_num hb1 (by omega)
    rw [← T.find hw (fun _ => hu1), ho]
    dsimp only
    unfold TabD.find
    by_cases hl : n < t.arr.length
    · rw [if_pos ⟨by omega, by omega⟩, show ((n : Int) + 1).toNat - 1 = n by omega, List.getElem?_eq_getElem hl]
      dsimp only
      rw [List.drop_eq_getElem_cons hl]
      unfold lenL
      obtain ⟨x, x1, x2⟩ := T.c.mid.pa n _ (List.getElem?_eq_getElem hl)
      have hx : t.order.getD t.arr[n] (nilV, nilV) = x := by rw [List.getD_eq_getElem?_getD, x1]; rfl
      have hx' : t.order.getD t.arr[n] pr00 = x := hx
      rw [hx, hx', nil_t (T.c.mid.wk x (List.mem_of_getElem? x1)).2.1]
      by_cases hz : x.2.t = 0
      · rw [if_pos hz, if_pos (decide_eq_true hz)]
      · rw [if_neg hz, if_neg (by simpa using hz)]
        exact ih (by omega) (by omega)
    · have hn' : n = t.arr.length := by omega
      rw [if_neg (by omega), if_pos (show (numV X).t = 2 from rfl)]
      have : look t.nums (numV X).n = none := by
        unfold look
        simp only [Option.map_eq_none_iff, List.find?_eq_none]
        intro e he h2
        have h2 : e.1 = X := by simpa [numV] using h2
        have := T.c.cl e he
        rw [h2, hb1, hn'] at this
        exact this rfl
      rw [this]
      dsimp only
      rw [hn', List.drop_length]
      rfl
theorem TTi.len {t : TabD} (T : TTi t) : t.len = lenM t.order := by
  unfold lenM
  rw [T.lenS keyI_u (fun n h => keyI_back h) 33 0 (by omega) (Nat.zero_le _), List.drop_zero]
  unfold TabD.len
  split
  · rename_i hd
    have hdd := T.f.dd
    rw [hd] at hdd
    have key : ∀ (l : List Nat) (n : Nat), (∀ p ∈ l, p < t.order.length) → lenL t l n = n + l.length := by
      intro l
      induction l with
      | nil => intro n _; rfl
      | cons p l ih =>
        intro n h
        unfold lenL
        have hp := h p (List.mem_cons_self ..)
        have hx : t.order.getD p (nilV, nilV) = t.order[p] := by rw [List.getD_eq_getElem?_getD, List.getElem?_eq_getElem hp]; rfl
        have h0 := List.countP_eq_zero.1 hdd.symm t.order[p] (List.getElem_mem hp)
        rw [hx, if_neg h0, ih (n + 1) (fun q hq => h q (List.mem_cons_of_mem _ hq))]
        simp; omega
    rw [key t.arr 0 T.f.ap]
    omega
  · rfl
end Go.Proofs.Qxb6500574aGreatDoor
