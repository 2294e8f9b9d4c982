/-
  THE WALK of the parser layer: the parser's state; accept, expect, function, name.
-/
import Derived.Test.Qxb6500574aGreatDoorWPa0
import Derived.Test.Qxb6500574aGreatDoorWNf2
namespace Go.Proofs.Qxb6500574aGreatDoor
open Go Go.RowKit
set_option linter.unusedVariables false
set_option linter.unusedSimpArgs false
open Go.Lib
/-- what is known of the tokens -/
structure TG (T : List Tok) : Prop where
  tok : TOk T
  fin : ∀ i, i < T.length → (T.getD i tok0).k ≠ 0 → (T.getD i tok0).k ≠ 1 → i + 1 < T.length
  len : T.length ≤ 2049
  e14 : E14 T
/-- the parser in memory -/
structure PRep (w : World) (o : Nat → Nat) (bp : Nat) (T : List Tok) (sl : Sl) (s : PSt) : Prop where
  blk : Blk w o 1043 bp (pC sl T.length s.i (curT T s) s.alive s.loops s.funcs 0 0) 146
  row : Row w o 1041 132 5 sl T.length (T.flatMap tokC)
  lt : s.i < T.length
  ow : Ow w o
section
set_option maxRecDepth 100000
set_option maxHeartbeats 1000000
variable {w w' : World} {o o' : Nat → Nat} {bp : Nat} {sl : Sl} {T : List Tok} {s s' : PSt} {Q : Nat → Prop}
theorem PRep.st (h : PRep w o bp T sl s) (t : Stp Q w o w' o') (h1 : ¬ Q 1043) (h2 : ¬ Q 1041) : PRep w' o' bp T sl s := ⟨h.blk.st t h1, h.row.st t h2, h.lt, t.hi h.ow⟩
theorem PRep.as (h : PRep w o bp T sl s) (h1 : s'.i = s.i) (h2 : s'.alive = s.alive) (h3 : s'.loops = s.loops) (h4 : s'.funcs = s.funcs) : PRep w o bp T sl s' := by
  refine ⟨?_, h.row, by rw [h1]; exact h.lt, h.ow⟩
  have : curT T s' = curT T s := by unfold curT; rw [h1]
  rw [this, h1, h2, h3, h4]
  exact h.blk
theorem PRep.alloc (h : PRep w o bp T sl s) (b : Obj) : PRep (w.alloc b) o bp T sl s := h.st (Stp.fresh (fun _ => False) o ((Fr.refl _ _).alloc b)) (fun x => x) (fun x => x)
/-- a new block bears no label -/
theorem PRep.new (h : PRep w o bp T sl s) : o w.heap.size = 0 := h.ow _ (Nat.le_refl _)
theorem PRep.cur (h : PRep w o bp T sl s) : T[s.i]? = some (curT T s) := by
  unfold curT
  rw [List.getD_eq_getElem?_getD, List.getElem?_eq_getElem h.lt]
  rfl
theorem PRep.next (g : TG T) (h : PRep w o bp T sl s) (h0 : (curT T s).k ≠ 0) (h1 : (curT T s).k ≠ 1) :
    Calls Tryz.prog 155 #[.pointer (some ⟨bp, 0, none⟩)] w fun e w' => e = .returned (.tuple #[]) ∧ PRep w' o bp T sl s.nxt ∧ Stp (fun l => l = 1043) w o w' o := by
  have hl := g.fin s.i h.lt h0 h1
  have ht : T[s.i + 1]? = some (curT T s.nxt) := by
    unfold curT
    rw [List.getD_eq_getElem?_getD]
    show _ = some (T[s.i + 1]?.getD tok0)
    rw [List.getElem?_eq_getElem hl]
    rfl
  have := g.len
  refine (pnext_any h.blk h.row (by omega) ht).mono ?_
  rintro e w' ⟨h1, h2, h3⟩
  exact ⟨h1, ⟨h2, h.row.st h3 (by omega), hl, h3.hi h.ow⟩, h3⟩
theorem PRep.fail {x : Nat} {y : Nat × Nat} (h : PRep w o bp T sl s) (hy : failP T s x = .inl y) :
    Calls Tryz.prog 62 #[.pointer (some ⟨bp, 0, none⟩), .int .i64 x] w fun e w' => e = .returned (.tuple #[]) ∧ PErr w' o bp y.1 y.2 ∧ Stp (fun l => l = 1043) w o w' o := by
  have e1 := Sum.inl.inj hy
  rw [← e1]
  exact fail_any h.blk
theorem PRep.ends (h : PRep w o bp T sl s) : Calls Tryz.prog 97 #[.pointer (some ⟨bp, 0, none⟩)] w fun e w' => e = .returned (.bool (endsB (curT T s).k)) ∧ w' = w := pends_any h.blk
/-- the token at hand -/
theorem PRep.cells (h : PRep w o bp T sl s) : bp < w.heap.size ∧ w.cell? ⟨bp, 2, none⟩ = some (.int .i64 (curT T s).k) ∧ w.cell? ⟨bp, 3, none⟩ = some (.int .i64 (curT T s).p) ∧ w.cell? ⟨bp, 4, none⟩ = some (sv (curT T s).s) ∧ w.cell? ⟨bp, 5, none⟩ = some (.int .u64 (curT T s).n) ∧ w.cell? ⟨bp, 6, none⟩ = some (.int .i64 (curT T s).e) := by
  have c := h.blk.has.cell
  exact ⟨h.blk.has.lt, c 2, c 3, c 4, c 5, c 6⟩
theorem PRep.cells2 (h : PRep w o bp T sl s) : w.cell? ⟨bp, 7, none⟩ = some (.int .i64 s.alive) ∧ w.cell? ⟨bp, 8, none⟩ = some (.int .i64 s.loops) ∧ w.cell? ⟨bp, 9, none⟩ = some (.int .i64 s.funcs) ∧ (∀ j, w.frozen? ⟨bp, j, none⟩ = false) := by
  have c := h.blk.has.cell
  exact ⟨c 7, c 8, c 9, h.blk.has.frozen⟩
/-- accept: yes -/
theorem PRep.accept_yes (g : TG T) (h : PRep w o bp T sl s) {k : Nat} (hk : (curT T s).k = k) (k0 : k ≠ 0) (k1 : k ≠ 1) :
    Calls Tryz.prog 224 #[.pointer (some ⟨bp, 0, none⟩), .int .i64 k] w fun e w' => e = .returned (.bool true) ∧ PRep w' o bp T sl s.nxt ∧ Stp (fun l => l = 1043) w o w' o := by
  obtain ⟨hb, c2, _⟩ := h.cells
  have NX := h.next g (by rw [hk]; exact k0) (by rw [hk]; exact k1)
  rw [hk] at c2
  have HNX : Hid (Calls Tryz.prog 155 #[.pointer (some ⟨bp, 0, none⟩)] w fun e w' => e = .returned (.tuple #[]) ∧ PRep w' o bp T sl s.nxt ∧ Stp (fun l => l = 1043) w o w' o) := NX
  have hne : ((k : Int) != (k : Int)) = false := by simp
  clear NX h hk k0 k1 g
  go_enter Tryz.func224, Tryz.ntmps224
  go_wp2_with fail
  refine HNX.out.mono ?_
  rintro e1 w1 ⟨rfl, q1, q2⟩
  have HQ1 : Hid (PRep w1 o bp T sl s.nxt) := q1
  have HQ2 : Hid (Stp (fun l => l = 1043) w o w1 o) := q2
  clear q1 q2
  go_wp2_with fail
  go_ret
  exact ⟨rfl, HQ1.out, HQ2.out⟩
theorem PRep.accept_no (h : PRep w o bp T sl s) {k : Nat} (hk : (curT T s).k ≠ k) :
    Calls Tryz.prog 224 #[.pointer (some ⟨bp, 0, none⟩), .int .i64 k] w fun e w' => e = .returned (.bool false) ∧ w' = w := by
  obtain ⟨hb, c2, _⟩ := h.cells
  have hne : (((curT T s).k : Int) != (k : Int)) = true := by simp; omega
  clear h hk
  go_enter Tryz.func224, Tryz.ntmps224
  go_wp2_with fail
  go_ret
  exact ⟨rfl, rfl⟩
/-- expect: yes -/
theorem PRep.expect_yes (g : TG T) (h : PRep w o bp T sl s) {k : Nat} (hk : (curT T s).k = k) (k0 : k ≠ 0) (k1 : k ≠ 1) :
    Calls Tryz.prog 225 #[.pointer (some ⟨bp, 0, none⟩), .int .i64 k] w fun e w' => e = .returned (.bool true) ∧ PRep w' o bp T sl s.nxt ∧ Stp (fun l => l = 1043) w o w' o := by
  obtain ⟨hb, c2, _⟩ := h.cells
  have NX := h.next g (by rw [hk]; exact k0) (by rw [hk]; exact k1)
  rw [hk] at c2
  have HNX : Hid (Calls Tryz.prog 155 #[.pointer (some ⟨bp, 0, none⟩)] w fun e w' => e = .returned (.tuple #[]) ∧ PRep w' o bp T sl s.nxt ∧ Stp (fun l => l = 1043) w o w' o) := NX
  have hne : ((k : Int) != (k : Int)) = false := by simp
  clear NX h hk k0 k1 g
  go_enter Tryz.func225, Tryz.ntmps225
  go_wp2_with fail
  refine HNX.out.mono ?_
  rintro e1 w1 ⟨rfl, q1, q2⟩
  have HQ1 : Hid (PRep w1 o bp T sl s.nxt) := q1
  have HQ2 : Hid (Stp (fun l => l = 1043) w o w1 o) := q2
  clear q1 q2
  go_wp2_with fail
  go_ret
  exact ⟨rfl, HQ1.out, HQ2.out⟩
theorem PRep.expect_no (h : PRep w o bp T sl s) {k : Nat} {y : Nat × Nat} (hk : (curT T s).k ≠ k) (hy : failP T s 15 = .inl y) :
    Calls Tryz.prog 225 #[.pointer (some ⟨bp, 0, none⟩), .int .i64 k] w fun e w' => e = .returned (.bool false) ∧ PErr w' o bp y.1 y.2 ∧ Stp (fun l => l = 1043) w o w' o := by
  obtain ⟨hb, c2, _⟩ := h.cells
  have HF : Hid (Calls Tryz.prog 62 #[.pointer (some ⟨bp, 0, none⟩), .int .i64 15] w fun e w' => e = .returned (.tuple #[]) ∧ PErr w' o bp y.1 y.2 ∧ Stp (fun l => l = 1043) w o w' o) := h.fail hy
  have hne : (((curT T s).k : Int) != (k : Int)) = true := by simp; omega
  clear h hk hy
  go_enter Tryz.func225, Tryz.ntmps225
  go_wp2_with fail
  refine HF.out.mono ?_
  rintro e1 w1 ⟨rfl, q1, q2⟩
  have HQ1 : Hid (PErr w1 o bp y.1 y.2) := q1
  have HQ2 : Hid (Stp (fun l => l = 1043) w o w1 o) := q2
  clear q1 q2
  go_wp2_with fail
  go_ret
  exact ⟨rfl, HQ1.out, HQ2.out⟩
/-- function: yes -/
theorem PRep.func_yes (g : TG T) (h : PRep w o bp T sl s) (hf : s.funcs < 12) (k0 : (curT T s).k ≠ 0) (k1 : (curT T s).k ≠ 1) :
    Calls Tryz.prog 221 #[.pointer (some ⟨bp, 0, none⟩)] w fun e w' => e = .returned (.bool true) ∧ PRep w' o bp T sl s.nxt ∧ Stp (fun l => l = 1043) w o w' o := by
  have hb := h.cells.1
  have c9 := h.cells2.2.2.1
  have HNX : Hid (Calls Tryz.prog 155 #[.pointer (some ⟨bp, 0, none⟩)] w fun e w' => e = .returned (.tuple #[]) ∧ PRep w' o bp T sl s.nxt ∧ Stp (fun l => l = 1043) w o w' o) := h.next g k0 k1
  have hne : decide ((12 : Int) ≤ (s.funcs : Int)) = false := by simp; omega
  clear h k0 k1 g
  go_enter Tryz.func221, Tryz.ntmps221
  go_wp2_with fail
  refine HNX.out.mono ?_
  rintro e1 w1 ⟨rfl, q1, q2⟩
  have HQ1 : Hid (PRep w1 o bp T sl s.nxt) := q1
  have HQ2 : Hid (Stp (fun l => l = 1043) w o w1 o) := q2
  clear q1 q2
  go_wp2_with fail
  go_ret
  exact ⟨rfl, HQ1.out, HQ2.out⟩
theorem PRep.func_no (h : PRep w o bp T sl s) {y : Nat × Nat} (hf : 12 ≤ s.funcs) (hy : failP T s 20 = .inl y) :
    Calls Tryz.prog 221 #[.pointer (some ⟨bp, 0, none⟩)] w fun e w' => e = .returned (.bool false) ∧ PErr w' o bp y.1 y.2 ∧ Stp (fun l => l = 1043) w o w' o := by
  have hb := h.cells.1
  have c9 := h.cells2.2.2.1
  have HF : Hid (Calls Tryz.prog 62 #[.pointer (some ⟨bp, 0, none⟩), .int .i64 20] w fun e w' => e = .returned (.tuple #[]) ∧ PErr w' o bp y.1 y.2 ∧ Stp (fun l => l = 1043) w o w' o) := h.fail hy
  have hne : decide ((12 : Int) ≤ (s.funcs : Int)) = true := by simp; omega
  clear h hy
  go_enter Tryz.func221, Tryz.ntmps221
  go_wp2_with fail
  refine HF.out.mono ?_
  rintro e1 w1 ⟨rfl, q1, q2⟩
  have HQ1 : Hid (PErr w1 o bp y.1 y.2) := q1
  have HQ2 : Hid (Stp (fun l => l = 1043) w o w1 o) := q2
  clear q1 q2
  go_wp2_with fail
  go_ret
  exact ⟨rfl, HQ1.out, HQ2.out⟩
end
end Go.Proofs.Qxb6500574aGreatDoor
