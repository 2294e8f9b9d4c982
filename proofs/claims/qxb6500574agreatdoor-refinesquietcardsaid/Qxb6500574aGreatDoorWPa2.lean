/-
  THE WALK of the parser layer: the parser: name.
-/
import Derived.Test.Qxb6500574aGreatDoorWPa1
namespace Go.Proofs.Qxb6500574aGreatDoor
open Go Go.RowKit
set_option linter.unusedVariables false
set_option linter.unusedSimpArgs false
open Go.Lib
section
set_option maxRecDepth 100000
set_option maxHeartbeats 1000000
variable {w w' : World} {o o' : Nat → Nat} {bp : Nat} {sl : Sl} {T : List Tok} {s s' : PSt} {Q : Nat → Prop}
/-- a name is passed -/
theorem PRep.name_yes (g : TG T) (h : PRep w o bp T sl s) {x : Nat} (hx : x ≤ 100) (hk : (curT T s).k = 2) (ha : ¬ (0 < x ∧ 12 < s.alive + x)) (hal : s.alive ≤ 12) :
    Calls Tryz.prog 222 #[.pointer (some ⟨bp, 0, none⟩), .int .i64 x] w fun e w' => ∃ b, e = .returned (.pointer (some ⟨b, 0, none⟩)) ∧ w.heap.size ≤ b ∧ Has w' b #[.int .i64 (curT T s).p, sv (curT T s).s] 357 ∧ PRep w' o bp T sl s.nxt ∧ Stp (fun l => l = 1043) w o w' o := by
  obtain ⟨hb, c2, c3, c4, c5, c6⟩ := h.cells
  obtain ⟨c7, _, _, _⟩ := h.cells2
  rw [hk] at c2
  generalize ht : curT T s = t at *
  have NX : Hid (∀ ob, Calls Tryz.prog 155 #[.pointer (some ⟨bp, 0, none⟩)] (w.alloc ob) fun e w' => e = .returned (.tuple #[]) ∧ PRep w' o bp T sl s.nxt ∧ Stp (fun l => l = 1043) (w.alloc ob) o w' o) := fun ob => (h.alloc ob).next g (by rw [ht, hk]; decide) (by rw [ht, hk]; decide)
  generalize s.nxt = s2 at *
  have hnew := h.new
  have HT : Hid (t.k = 2) := hk
  clear h g ht hk
  go_enter Tryz.func222, Tryz.ntmps222
  by_cases hx0 : 0 < x
  · have e1 : decide ((0 : Int) < (x : Int)) = true := by simp; omega
    have e2 : decide ((12 : Int) < (s.alive : Int) + (x : Int)) = false := by simp; omega
    go_wp2_with fail
    refine (NX.out _).mono ?_
    rintro e3 w1 ⟨rfl, q1, q2⟩
    have d := q2.has (Has.new w #[.int .i64 2, .int .i64 t.p, sv t.s, .int .u64 t.n, .int .i64 t.e] 132) (by rw [hnew]; omega)
    have d1 := d.cell 1
    have d2 := d.cell 2
    have dl := d.lt
    simp only [List.getElem?_toArray, List.getElem?_cons_succ, List.getElem?_cons_zero] at d1 d2
    have HQ1 : Hid (PRep w1 o bp T sl s2) := q1
    have HQ2 : Hid (Stp (fun l => l = 1043) w o w1 o) := (Stp.fresh _ o ((Fr.refl _ _).alloc _)).trans q2
    clear q1 q2 d
    go_wp2_with fail
    go_ret
    exact ⟨w1.heap.size, rfl, by omega, Has.new _ _ _, HQ1.out.alloc _, HQ2.out.alloc _⟩
  · have e1 : decide ((0 : Int) < (x : Int)) = false := by simp; omega
    go_wp2_with fail
    refine (NX.out _).mono ?_
    rintro e3 w1 ⟨rfl, q1, q2⟩
    have d := q2.has (Has.new w #[.int .i64 2, .int .i64 t.p, sv t.s, .int .u64 t.n, .int .i64 t.e] 132) (by rw [hnew]; omega)
    have d1 := d.cell 1
    have d2 := d.cell 2
    have dl := d.lt
    simp only [List.getElem?_toArray, List.getElem?_cons_succ, List.getElem?_cons_zero] at d1 d2
    have HQ1 : Hid (PRep w1 o bp T sl s2) := q1
    have HQ2 : Hid (Stp (fun l => l = 1043) w o w1 o) := (Stp.fresh _ o ((Fr.refl _ _).alloc _)).trans q2
    clear q1 q2 d
    go_wp2_with fail
    go_ret
    exact ⟨w1.heap.size, rfl, by omega, Has.new _ _ _, HQ1.out.alloc _, HQ2.out.alloc _⟩
/-- no name, or too many locals -/
theorem PRep.name_no (h : PRep w o bp T sl s) {x : Nat} {y : Nat × Nat} (hx : x ≤ 100) (hal : s.alive ≤ 12) (hy : ((curT T s).k ≠ 2 ∧ failP T s 15 = .inl y) ∨ ((curT T s).k = 2 ∧ 0 < x ∧ 12 < s.alive + x ∧ failP T s 18 = .inl y)) :
    Calls Tryz.prog 222 #[.pointer (some ⟨bp, 0, none⟩), .int .i64 x] w fun e w' => e = .returned (.pointer none) ∧ PErr w' o bp y.1 y.2 ∧ Stp (fun l => l = 1043) w o w' o := by
  obtain ⟨hb, c2, c3, c4, c5, c6⟩ := h.cells
  obtain ⟨c7, _, _, _⟩ := h.cells2
  have FA : Hid (∀ z ob, failP T s z = .inl y → Calls Tryz.prog 62 #[.pointer (some ⟨bp, 0, none⟩), .int .i64 z] (World.alloc w ob) fun e w' => e = .returned (.tuple #[]) ∧ PErr w' o bp y.1 y.2 ∧ Stp (fun l => l = 1043) (World.alloc w ob) o w' o) := fun z ob hz => (h.alloc ob).fail hz
  have hnew := h.new
  generalize curT T s = t at *
  clear h
  go_enter Tryz.func222, Tryz.ntmps222
  rcases hy with ⟨hk, hf⟩ | ⟨hk, hx0, hx1, hf⟩
  · have e1 : ((t.k : Int) != 2) = true := by simp; omega
    have FA1 := fun ob => FA.out 15 ob hf
    clear FA hf
    have HFA : Hid (∀ ob, Calls Tryz.prog 62 #[.pointer (some ⟨bp, 0, none⟩), .int .i64 15] (World.alloc w ob) fun e w' => e = .returned (.tuple #[]) ∧ PErr w' o bp y.1 y.2 ∧ Stp (fun l => l = 1043) (World.alloc w ob) o w' o) := FA1
    clear FA1
    go_wp2_with fail
    refine (HFA.out _).mono ?_
    rintro e3 w1 ⟨rfl, q1, q2⟩
    have HQ1 : Hid (PErr w1 o bp y.1 y.2) := q1
    have HQ2 : Hid (Stp (fun l => l = 1043) w o w1 o) := (Stp.fresh _ o ((Fr.refl _ _).alloc _)).trans q2
    clear q1 q2
    go_wp2_with fail
    go_ret
    exact ⟨rfl, HQ1.out, HQ2.out⟩
  · have e1 : ((t.k : Int) != 2) = false := by rw [hk]; rfl
    have e2 : decide ((0 : Int) < (x : Int)) = true := by simp; omega
    have e3 : decide ((12 : Int) < (s.alive : Int) + (x : Int)) = true := by simp; omega
    have FA1 := fun ob => FA.out 18 ob hf
    clear FA hf
    have HFA : Hid (∀ ob, Calls Tryz.prog 62 #[.pointer (some ⟨bp, 0, none⟩), .int .i64 18] (World.alloc w ob) fun e w' => e = .returned (.tuple #[]) ∧ PErr w' o bp y.1 y.2 ∧ Stp (fun l => l = 1043) (World.alloc w ob) o w' o) := FA1
    clear FA1
    go_wp2_with fail
    refine (HFA.out _).mono ?_
    rintro e4 w1 ⟨rfl, q1, q2⟩
    have HQ1 : Hid (PErr w1 o bp y.1 y.2) := q1
    have HQ2 : Hid (Stp (fun l => l = 1043) w o w1 o) := (Stp.fresh _ o ((Fr.refl _ _).alloc _)).trans q2
    clear q1 q2
    go_wp2_with fail
    go_ret
    exact ⟨rfl, HQ1.out, HQ2.out⟩
end
end Go.Proofs.Qxb6500574aGreatDoor
