/-
  vm.plain: every instruction that it plays.
-/
import Derived.Test.Qxb6500574aGreatDoorVPl1
import Derived.Test.Qxb6500574aGreatDoorVPl2
import Derived.Test.Qxb6500574aGreatDoorVPl3
import Derived.Test.Qxb6500574aGreatDoorVPl4
import Derived.Test.Qxb6500574aGreatDoorVPl5
import Derived.Test.Qxb6500574aGreatDoorVPl7
import Derived.Test.Qxb6500574aGreatDoorVPl8
import Derived.Test.Qxb6500574aGreatDoorVPl9
namespace Go.Proofs.Qxb6500574aGreatDoor
open Go Go.RowKit
set_option linter.unusedVariables false
set_option linter.unusedSimpArgs false
section
variable {w : World} {A : VL} {m : VMD} {f e i g j gp pi : Nat} {t : ThD} {K : Cx} {fm : FmD} {p : PrD}
theorem top_2 {t : ThD} {b : Nat} (h : b + 2 ≤ t.stack.length) : ∃ r x y, t.stack = r ++ [x, y] ∧ b ≤ r.length := by
  obtain ⟨r1, y, h1⟩ := top1 (t := t) (by omega)
  have hl : r1.length + 1 = t.stack.length := by rw [h1]; simp
  obtain ⟨r, x, h2⟩ := top1 (t := { t with stack := r1 }) (by show 1 ≤ r1.length; omega)
  dsimp only at h2
  have hl2 : r.length + 1 = r1.length := by rw [h2]; simp
  exact ⟨r, x, y, by rw [h1, h2]; simp, by omega⟩
theorem top_3 {t : ThD} {b : Nat} (h : b + 3 ≤ t.stack.length) : ∃ r x y z, t.stack = r ++ [x, y, z] ∧ b ≤ r.length := by
  obtain ⟨r1, z, h1⟩ := top1 (t := t) (by omega)
  have hl : r1.length + 1 = t.stack.length := by rw [h1]; simp
  obtain ⟨r, x, y, h2, h3⟩ := top_2 (t := { t with stack := r1 }) (b := b) (by show b + 2 ≤ r1.length; omega)
  dsimp only at h2
  exact ⟨r, x, y, z, by rw [h1, h2]; simp, h3⟩
theorem top_1 {t : ThD} {b : Nat} (h : b + 1 ≤ t.stack.length) : ∃ r y, t.stack = r ++ [y] ∧ b ≤ r.length := by
  obtain ⟨r1, y, h1⟩ := top1 (t := t) (by omega)
  have hl : r1.length + 1 = t.stack.length := by rw [h1]; simp
  exact ⟨r1, y, h1, by omega⟩
theorem const_at (h : PB w A m f e K i t fm g j gp pi p) {x : Nat} (hx : x < p.nk) : ∃ c, m.consts[p.k + x]? = some c := by
  have hp := (h.at'.vi.txt.pr p (List.mem_of_getElem? h.hp)).k
  exact ⟨m.consts[p.k + x]'(by omega), by simp⟩
theorem plain_any (h : PB w A m f e K i t fm g j gp pi p) {op x : Nat} (hx16 : x < 65536) (ho : 1 ≤ op ∧ op ≤ 32 ∧ op ≠ 21 ∧ op ≠ 22 ∧ op ≠ 23 ∧ op ≠ 24 ∧ op ≠ 26 ∧ op ≠ 27) (hs : soundP m i op x = true) (hn : fm.base + p.ns + (need op).toNat ≤ t.stack.length) :
    Calls Tryz.prog 269 #[.pointer (some ⟨A.b, 0, none⟩), .int .i64 i, .pointer (some ⟨A.bT, i * 5, none⟩), .pointer (some ⟨g, j * 5, none⟩), .pointer (some ⟨gp, pi * 8, none⟩), .int .u8 op, .int .i64 x] w (PlPost (plainP m i op x) w A f e i) := by
  have T := h.at'.topF
  have P := h.pe
  have TH := th_get h.at'.hi
  unfold soundP at hs
  dsimp only at hs
  rw [T, P] at hs
  obtain rfl | rfl | rfl | rfl | rfl | rfl | rfl | rfl | rfl | rfl | rfl | rfl | rfl | rfl | rfl | rfl | rfl | rfl | rfl | rfl | rfl | rfl | rfl | rfl | rfl | rfl : op = 1 ∨ op = 2 ∨ op = 3 ∨ op = 4 ∨ op = 5 ∨ op = 6 ∨ op = 7 ∨ op = 8 ∨ op = 9 ∨ op = 10 ∨ op = 11 ∨ op = 12 ∨ op = 13 ∨ op = 14 ∨ op = 15 ∨ op = 16 ∨ op = 17 ∨ op = 18 ∨ op = 19 ∨ op = 20 ∨ op = 25 ∨ op = 28 ∨ op = 29 ∨ op = 30 ∨ op = 31 ∨ op = 32 := by omega
  all_goals
    simp (config := { decide := true }) only [if_true, if_false, decide_eq_true_eq] at hs
    simp (config := { decide := true }) only [need, if_true, if_false] at hn
    try simp only [show (Int.toNat 1) = 1 from rfl, show (Int.toNat 2) = 2 from rfl, show (Int.toNat 3) = 3 from rfl, show (Int.toNat 0) = 0 from rfl] at hn
  case _ => obtain ⟨c, hc⟩ := const_at h hs; exact plain_1 h hx16 hc
  case _ => exact plain_2 h hx16
  case _ => exact plain_3 h hx16
  case _ => exact plain_4 h hx16
  case _ => exact plain_5 h hx16 hs (u := t.stack[fm.base + x]'(by omega)) (by simp)
  case _ =>
    obtain ⟨r, b, h1, h2⟩ := top_1 hn
    exact plain_6 h hx16 hs (u := r[fm.base + x]'(by omega)) h1 (by simp)
  case _ => exact plain_7 h hx16 hs
  case _ =>
    obtain ⟨r, b, h1, h2⟩ := top_1 hn
    exact plain_8 h hx16 hs h1 h2
  case _ => obtain ⟨c, hc⟩ := const_at h hs.1; exact plain_9 h hx16 hc
  case _ =>
    obtain ⟨r, b, h1, h2⟩ := top_1 hn
    obtain ⟨c, hc⟩ := const_at h hs.1
    exact plain_10 h hx16 h1 hc
  case _ =>
    obtain ⟨r, a, b, h1, h2⟩ := top_2 hn
    exact plain_11 h hx16 h1
  case _ =>
    obtain ⟨r, a, b, c, h1, h2⟩ := top_3 hn
    exact plain_12 h hx16 h1
  case _ =>
    obtain ⟨r, a, b, h1, h2⟩ := top_2 hn
    exact plain_13 h hx16 h1
  case _ => exact plain_14 h hx16
  case _ =>
    obtain ⟨r, a, b, h1, h2⟩ := top_2 hn
    exact plain_15 h hx16 h1 hs
  case _ =>
    obtain ⟨r, a, b, h1, h2⟩ := top_2 hn
    exact plain_16 h hx16 h1 hs
  case _ =>
    obtain ⟨r, a, b, h1, h2⟩ := top_2 hn
    exact plain_17 h hx16 h1
  case _ =>
    obtain ⟨r, b, h1, h2⟩ := top_1 hn
    exact plain_18 h hx16 h1
  case _ =>
    obtain ⟨r, b, h1, h2⟩ := top_1 hn
    exact plain_19 h hx16 h1
  case _ =>
    obtain ⟨r, b, h1, h2⟩ := top_1 hn
    exact plain_20 h hx16 h1
  case _ =>
    obtain ⟨r, b, h1, h2⟩ := top_1 hn
    exact plain_25 h hx16 h1
  case _ =>
    have hd := descs_ok (op := 28) h.at' (x := x) (by unfold soundP; dsimp only; rw [T, P]; simp (config := { decide := true }) only [if_true, if_false]; exact hs)
    exact plain_28 h hx16 hd.1 hd.2
  case _ => exact plain_29 h hx16
  case _ => exact plain_30 h hx16 hs
  case _ => exact plain_31 h hx16 hs.1
  case _ => exact plain_32 h hx16 hs
end
end Go.Proofs.Qxb6500574aGreatDoor
