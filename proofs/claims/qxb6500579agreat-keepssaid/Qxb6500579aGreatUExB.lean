/-
  THE WALK of vm: Exec, where the call is refused.
-/
import Derived.Test.Qxb6500579aGreatUValid
import Derived.Test.Qxb6500579aGreatVExec
import Derived.Test.Qxb6500579aGreatU2
namespace Go.Proofs.Qxb6500579aGreat
open Go Go.RowKit
set_option linter.unusedVariables false
set_option linter.unusedSimpArgs false
theorem Fr.set9' {w w2 : World} {b : Nat} (h : Fr (fun _ => False) w w2) (hb : w.heap.size ≤ b) (y : EvD) : Fr (fun _ => False) w (set9 w2 b y) :=
  ((((((((h.setCell (p := ⟨b, 0, none⟩) (.inr hb) _).setCell (p := ⟨b, 1, none⟩) (.inr hb) _).setCell (p := ⟨b, 2, none⟩) (.inr hb) _).setCell (p := ⟨b, 3, none⟩) (.inr hb) _).setCell (p := ⟨b, 4, none⟩) (.inr hb) _).setCell (p := ⟨b, 5, none⟩) (.inr hb) _).setCell (p := ⟨b, 6, none⟩) (.inr hb) _).setCell (p := ⟨b, 7, none⟩) (.inr hb) _).setCell (p := ⟨b, 8, none⟩) (.inr hb) _
section
variable {w : World} {A : VL} {m : VMD} {f e : Nat} {i : Int} {a b : Vl}
set_option maxRecDepth 100000
set_option maxHeartbeats 1000000
/-- ended, or no such thread -/
theorem exec_none (R : VRep w A m f e) (hi : -9223372036854775808 ≤ i ∧ i ≤ 9223372036854775807) (h : e ≠ 0 ∨ i < 0 ∨ (m.ths.length : Int) ≤ i) :
    Calls Tryz.prog 37 #[.pointer (some ⟨A.b, 0, none⟩), .int .i64 i, a.val, b.val] w fun e' w' => e' = .returned evBad.val ∧ Fr (fun _ => False) w w' := by
  have c9 : w.cell? ⟨A.b, 9, none⟩ = some (.slice (some ⟨A.bT, 0, none⟩) m.ths.length 5) := R.cell0 9
  have c12 : w.cell? ⟨A.b, 12, none⟩ = some (.int .i64 e) := R.cell0 12
  have bl := R.core.here.has.lt
  have n5 : m.ths.length ≤ 5 := by have := R.len5; omega
  obtain ⟨NT, HNT⟩ : ∃ x, Hid (m.ths.length = x) := ⟨_, rfl⟩
  rw [HNT.out] at c9 n5 h
  obtain ⟨at', an, as'⟩ := a
  obtain ⟨bt', bn', bs'⟩ := b
  have cl1 : A.b < w.heap.size + 1 := by omega
  have cl2 : A.b < w.heap.size + 1 + 1 := by omega
  clear R
  by_cases he : e = 0
  · subst he
    rw [show ((0 : Nat) : Int) = 0 from rfl] at c12
    by_cases h1 : i < 0
    · go_enter Tryz.func37, Tryz.ntmps37
      go_wp2_with fail
      exact bodyPost_ret (res_cell isEvent rfl rfl (Has.newC _ _ _ (by simp)) rfl) rfl ⟨rfl, (((Fr.refl _ _).alloc _).alloc _).alloc _⟩
    · have h2 : (NT : Int) ≤ i := by omega
      go_enter Tryz.func37, Tryz.ntmps37
      go_wp2_with fail
      exact bodyPost_ret (res_cell isEvent rfl rfl (Has.newC _ _ _ (by simp)) rfl) rfl ⟨rfl, (((Fr.refl _ _).alloc _).alloc _).alloc _⟩
  · have h3 : ((e : Int) == 0) = false := by rw [beq_eq_false_iff_ne]; omega
    go_enter Tryz.func37, Tryz.ntmps37
    go_wp2_with fail
    exact bodyPost_ret (res_cell isEvent rfl rfl (Has.newC _ _ _ (by simp)) rfl) rfl ⟨rfl, (((Fr.refl _ _).alloc _).alloc _).alloc _⟩
/-- a value that is not valid, or a thread that cannot go on -/
theorem exec_no {i : Nat} {t : ThD} (R : VRep w A m f 0) (hb : m.clos.length ≤ 1000 ∧ m.tabs.length ≤ 1000) (hi : m.ths[i]? = some t) (h : validV m a = false ∨ validV m b = false ∨ t.st = 5) :
    Calls Tryz.prog 37 #[.pointer (some ⟨A.b, 0, none⟩), .int .i64 i, a.val, b.val] w fun e' w' => e' = .returned evBad.val ∧ Fr (fun _ => False) w w' := by
  have c9 : w.cell? ⟨A.b, 9, none⟩ = some (.slice (some ⟨A.bT, 0, none⟩) m.ths.length 5) := R.cell0 9
  have c12 : w.cell? ⟨A.b, 12, none⟩ = some (.int .i64 0) := R.cell0 12
  have bl := R.core.here.has.lt
  have n5 : m.ths.length ≤ 5 := by have := R.len5; omega
  have il : i < m.ths.length := (List.getElem?_eq_some_iff.1 hi).1
  obtain ⟨l, hx⟩ : ∃ l, A.X[i]? = some l := ⟨_, List.getElem?_eq_getElem (by rw [R.lenX]; exact il)⟩
  have d0 : w.cell? ⟨A.bT, i * 5, none⟩ = some (.int .i64 t.st) := R.thCell hi hx (j := 0) (by omega)
  have tl := R.ths.here.has.lt
  obtain ⟨NT, HNT⟩ : ∃ x, Hid (m.ths.length = x) := ⟨_, rfl⟩
  rw [HNT.out] at c9 n5 il
  have VA : Hid (∀ W, Fr (fun _ => False) w W → Calls Tryz.prog 58 #[.pointer (some ⟨A.b, 0, none⟩), a.val] W fun e' w' => e' = .returned (.bool (validV m a)) ∧ Fr (fun _ => False) W w') := fun W hF => valid_all (R.fresh hF) a hb
  have VB : Hid (∀ W, Fr (fun _ => False) w W → Calls Tryz.prog 58 #[.pointer (some ⟨A.b, 0, none⟩), b.val] W fun e' w' => e' = .returned (.bool (validV m b)) ∧ Fr (fun _ => False) W w') := fun W hF => valid_all (R.fresh hF) b hb
  have HH : Hid (validV m a = false ∨ validV m b = false ∨ t.st = 5) := h
  obtain ⟨za, HZA⟩ : ∃ z, Hid (validV m a = z) := ⟨_, rfl⟩
  obtain ⟨zb, HZB⟩ : ∃ z, Hid (validV m b = z) := ⟨_, rfl⟩
  rw [HZA.out] at VA HH
  rw [HZB.out] at VB HH
  clear HZA HZB h R hi hx
  obtain ⟨at', an, as'⟩ := a
  obtain ⟨bt', bn', bs'⟩ := b
  have cl1 : A.b < w.heap.size + 1 := by omega
  have cl2 : A.b < w.heap.size + 1 + 1 := by omega
  have ge : ((NT : Int) ≤ (i : Int)) = False := by simp; omega
  go_enter Tryz.func37, Tryz.ntmps37
  go_wp2_with fail
  refine (VA.out _ ((((Fr.refl _ _).alloc _).alloc _).alloc _)).mono ?_
  rintro e' w1 ⟨rfl, F1⟩
  have HF1 : Hid (Fr (fun _ => False) w w1) := ((((Fr.refl _ w).alloc _).alloc _).alloc _).trans F1 (fun _ _ x => x)
  have hB : Has w1 (w.heap.size + 1) #[.int .i64 bt', .int .u64 bn', sv bs'] 33 := ((Has.newC _ _ _ (by simp)).alloc _).fr F1 (fun x => x)
  have hE : Has w1 (w.heap.size + 1 + 1) (evCells ev0) 85 := (Has.newC _ _ _ (by simp)).fr F1 (fun x => x)
  obtain ⟨k0, k1, k2⟩ := Has.cells3 (v := ⟨bt', bn', bs'⟩) hB
  have kl := hB.lt
  dsimp only at k0 k1 k2
  clear F1 hB
  go_wp2_with fail
  refine (VB.out _ HF1.out).mono ?_
  rintro e' w2 ⟨rfl, F2⟩
  have HF2 : Hid (Fr (fun _ => False) w w2) := HF1.out.trans F2 (fun _ _ x => x)
  have hE2 := hE.fr F2 (fun x => x)
  have c9 := HF2.out.cell c9
  have d0 := HF2.out.cell d0
  have bl := Nat.lt_of_lt_of_le bl HF2.out.size
  have tl := Nat.lt_of_lt_of_le tl HF2.out.size
  clear F2 hE k0 k1 k2 kl
  have e0 := hE2.cell 0
  have z0 := hE2.frozen 0
  have e1 := hE2.cell 1
  have z1 := hE2.frozen 1
  have e2 := hE2.cell 2
  have z2 := hE2.frozen 2
  have e3 := hE2.cell 3
  have z3 := hE2.frozen 3
  have e4 := hE2.cell 4
  have z4 := hE2.frozen 4
  have e5 := hE2.cell 5
  have z5 := hE2.frozen 5
  have e6 := hE2.cell 6
  have z6 := hE2.frozen 6
  have e7 := hE2.cell 7
  have z7 := hE2.frozen 7
  have e8 := hE2.cell 8
  have z8 := hE2.frozen 8
  simp only [evCells, ev0, nilV, List.getElem?_toArray, List.getElem?_cons_succ, List.getElem?_cons_zero] at e0 e1 e2 e3 e4 e5 e6 e7 e8
  have el := hE2.lt
  have FIN : Hid (Has (set9 w2 (w.heap.size + 1 + 1) evBad) (w.heap.size + 1 + 1) (evCells evBad) 85 ∧ Fr (fun _ => False) w (set9 w2 (w.heap.size + 1 + 1) evBad)) := ⟨Has.set9 evBad hE2, Fr.set9' HF2.out (by omega) evBad⟩
  clear hE2
  cases za with
  | false =>
    go_wp2_with fail
    exact bodyPost_ret (res_cell isEvent rfl rfl FIN.out.1 rfl) rfl ⟨rfl, FIN.out.2⟩
  | true =>
    cases zb with
    | false =>
      go_wp2_with fail
      exact bodyPost_ret (res_cell isEvent rfl rfl FIN.out.1 rfl) rfl ⟨rfl, FIN.out.2⟩
    | true =>
      have h5 : t.st = 5 := by
        rcases HH.out with h | h | h
        · cases h
        · cases h
        · exact h
      rw [h5] at d0
      rw [show ((5 : Nat) : Int) = 5 from rfl] at d0
      go_wp2_with fail
      exact bodyPost_ret (res_cell isEvent rfl rfl FIN.out.1 rfl) rfl ⟨rfl, FIN.out.2⟩
end
end Go.Proofs.Qxb6500579aGreat
