/-
  THE WALKS of vm: the reader (take, u8, u16).
-/
import Derived.Test.Qxb6500574aGreatDoorVCoreApp
import Derived.Test.Qxb6500574aGreatDoorVRes
import Derived.Test.Qxb6500574aGreatDoorVRet
import Derived.Laws.BitsAllLaws
import Derived.Deep.Quiet
import Derived.BigQuiet
namespace Go.Proofs.Qxb6500574aGreatDoor
open Go Go.RowKit
set_option linter.unusedVariables false
set_option linter.unusedSimpArgs false
/-- the reader at br over the bytes s, which lie at bb: it stands at i -/
structure Rd (w : World) (br bb c : Nat) (s : Bs) (i : Nat) (bad : Bool) : Prop where
  here : Has w br #[.slice (some ⟨bb, 0, none⟩) s.length c, .int .i64 i, .bool bad] 250
  bytes : ∀ j (hj : j < s.length), w.cell? ⟨bb, j, none⟩ = some (.int .u8 (s[j].toNat : Int))
  lt : bb < w.heap.size
  ne : bb ≠ br
  le : i ≤ s.length
  cap : s.length ≤ c
  len : s.length ≤ 32768
  c62 : c ≤ 9223372036854775807
theorem Fr.cellB {S : Nat → Prop} {w w' : World} (h : Fr S w w') {b j : Nat} (hb : b < w.heap.size) (hn : ¬ S b) : w'.cell? ⟨b, j, none⟩ = w.cell? ⟨b, j, none⟩ := by
  have := h.block b hb hn
  simp [World.cell?, this]
/-- a step that leaves both blocks -/
theorem Rd.fr {S : Nat → Prop} {w w' : World} {br bb c i : Nat} {s : Bs} {bad : Bool} (h : Rd w br bb c s i bad) (hf : Fr S w w') (h1 : ¬ S br) (h2 : ¬ S bb) : Rd w' br bb c s i bad :=
  ⟨h.here.fr hf h1, fun j hj => by rw [hf.cellB h.lt h2]; exact h.bytes j hj, Nat.lt_of_lt_of_le h.lt hf.size, h.ne, h.le, h.cap, h.len, h.c62⟩
theorem Rd.setI {w : World} {br bb c i : Nat} {s : Bs} {bad : Bool} (h : Rd w br bb c s i bad) {i' : Nat} (hi : i' ≤ s.length) : Rd (w.setCell ⟨br, 1, none⟩ (.int .i64 i')) br bb c s i' bad :=
  ⟨by have := h.here.put 1 (.int .i64 i'); simpa using this, fun j hj => by
    have : (w.setCell ⟨br, 1, none⟩ (.int .i64 i')).cell? ⟨bb, j, none⟩ = w.cell? ⟨bb, j, none⟩ := ((Fr.refl (fun k => k = br) w).setCell (p := ⟨br, 1, none⟩) (.inl rfl) _).cellB h.lt h.ne
    rw [this]; exact h.bytes j hj, by simpa [World.setCell] using h.lt, h.ne, hi, h.cap, h.len, h.c62⟩
theorem Rd.setB {w : World} {br bb c i : Nat} {s : Bs} {bad : Bool} (h : Rd w br bb c s i bad) : Rd (w.setCell ⟨br, 2, none⟩ (.bool true)) br bb c s i true :=
  ⟨by have := h.here.put 2 (.bool true); simpa using this, fun j hj => by
    have : (w.setCell ⟨br, 2, none⟩ (.bool true)).cell? ⟨bb, j, none⟩ = w.cell? ⟨bb, j, none⟩ := ((Fr.refl (fun k => k = br) w).setCell (p := ⟨br, 2, none⟩) (.inl rfl) _).cellB h.lt h.ne
    rw [this]; exact h.bytes j hj, by simpa [World.setCell] using h.lt, h.ne, h.le, h.cap, h.len, h.c62⟩
section
variable {w : World} {br bb c i : Nat} {s : Bs} {bad : Bool}
set_option maxRecDepth 100000
set_option maxHeartbeats 1000000
theorem Rd.cells (h : Rd w br bb c s i bad) : w.cell? ⟨br, 0, none⟩ = some (.slice (some ⟨bb, 0, none⟩) s.length c) ∧ w.cell? ⟨br, 1, none⟩ = some (.int .i64 i) ∧ w.cell? ⟨br, 2, none⟩ = some (.bool bad) :=
  ⟨by rw [h.here.cell]; rfl, by rw [h.here.cell]; rfl, by rw [h.here.cell]; rfl⟩
theorem rtake_no (h : Rd w br bb c s i bad) {n : Nat} (hn : n ≤ 65535) (hb : bad = true ∨ s.length < i + n) :
    Calls Tryz.prog 207 #[.pointer (some ⟨br, 0, none⟩), .int .i64 n] w fun e w' => e = .returned (.slice none 0 0) ∧ Rd w' br bb c s i true ∧ Fr (fun k => k = br) w w' := by
  obtain ⟨c0, c1, c2⟩ := h.cells
  have cl := h.here.lt
  have z2 := h.here.frozen 2
  have HR : Hid (Rd w br bb c s i bad) := h
  obtain ⟨L, hL⟩ : ∃ L, s.length = L := ⟨_, rfl⟩
  rw [hL] at c0 hb
  have hle := h.le
  have hlen := h.len
  rw [hL] at hle hlen
  have FIN : Hid (∀ k, Rd ((w.drewN k).setCell ⟨br, 2, none⟩ (.bool true)) br bb c s i true ∧ Fr (fun k => k = br) w ((w.drewN k).setCell ⟨br, 2, none⟩ (.bool true))) := fun k => ⟨(h.fr ((Fr.refl (fun _ => False) w).drewN k) (fun x => x) (fun x => x)).setB, Fr.setCell (S := fun k => k = br) ((Fr.refl _ w).drewN k) (p := ⟨br, 2, none⟩) (.inl rfl) _⟩
  clear h
  cases bad with
  | true =>
    go_enter Tryz.func207, Tryz.ntmps207
    go_wp2_with fail
    refine wp_region_quiet_lit (by kernel_rfl) (by kernel_rfl) ?_
    repeat go_big_quiet_step (fail)
    refine wpQuiet_nil ?_
    rintro w' ⟨nq, rfl⟩
    go_wp2_with fail
    go_ret
    exact ⟨rfl, FIN.out _⟩
  | false =>
    have hb : (L : Int) - (i : Int) < (n : Int) := by rcases hb with hb | hb; cases hb; omega
    go_enter Tryz.func207, Tryz.ntmps207
    go_wp2_with fail
    refine wp_region_quiet_lit (by kernel_rfl) (by kernel_rfl) ?_
    repeat go_big_quiet_step (fail)
    refine wpQuiet_nil ?_
    rintro w' ⟨nq, rfl⟩
    go_wp2_with fail
    go_ret
    exact ⟨rfl, FIN.out _⟩
theorem rtake_ok (h : Rd w br bb c s i false) {n : Nat} (hn : i + n ≤ s.length) :
    Calls Tryz.prog 207 #[.pointer (some ⟨br, 0, none⟩), .int .i64 n] w fun e w' => (∃ a c', e = .returned (.slice a n c') ∧ (0 < n → a = some ⟨bb, i, none⟩ ∧ n ≤ c')) ∧ Rd w' br bb c s (i + n) false ∧ Fr (fun k => k = br) w w' := by
  obtain ⟨c0, c1, c2⟩ := h.cells
  have cl := h.here.lt
  have z1 := h.here.frozen 1
  obtain ⟨L, hL⟩ : ∃ L, s.length = L := ⟨_, rfl⟩
  have hle := h.le
  have hlen := h.len
  have hcap := h.cap
  have hc6 := h.c62
  rw [hL] at c0 hn hle hlen hcap
  have hb : ¬ (L : Int) - (i : Int) < (n : Int) := by omega
  have FIN : Hid (∀ k, Rd ((w.drewN k).setCell ⟨br, 1, none⟩ (.int .i64 ((i + n : Nat) : Int))) br bb c s (i + n) false ∧ Fr (fun k => k = br) w ((w.drewN k).setCell ⟨br, 1, none⟩ (.int .i64 ((i + n : Nat) : Int)))) := fun k => ⟨(h.fr ((Fr.refl (fun _ => False) w).drewN k) (fun x => x) (fun x => x)).setI (by omega), Fr.setCell (S := fun k => k = br) ((Fr.refl _ w).drewN k) (p := ⟨br, 1, none⟩) (.inl rfl) _⟩
  clear h
  go_enter Tryz.func207, Tryz.ntmps207
  go_wp2_with fail
  refine wp_region_quiet_lit (by kernel_rfl) (by kernel_rfl) ?_
  repeat go_big_quiet_step (fail)
  refine wpQuiet_nil ?_
  rintro w' ⟨nq, rfl⟩
  go_wp2_with fail
  refine wp_region_quiet_lit (by kernel_rfl) (by kernel_rfl) ?_
  repeat go_big_quiet_step (fail)
  refine wpQuiet_nil ?_
  rintro w' ⟨nq2, rfl⟩
  have e : ((i + n : Nat) : Int) = (i : Int) + (n : Int) := by omega
  rw [e] at FIN
  go_wp2_with fail
  · have hn0 : ¬ 0 < n := by omega
    go_ret
    have F := FIN.out (nq + nq2)
    have hci : c = i := by assumption
    rw [hci] at F
    exact ⟨⟨_, _, rfl, fun x => absurd x hn0⟩, F⟩
  · go_ret
    exact ⟨⟨_, _, rfl, fun _ => ⟨rfl, by omega⟩⟩, FIN.out _⟩
theorem u8_no (h : Rd w br bb c s i bad) (hb : bad = true ∨ i = s.length) :
    Calls Tryz.prog 132 #[.pointer (some ⟨br, 0, none⟩)] w fun e w' => e = .returned (.int .u8 0) ∧ Rd w' br bb c s i true ∧ Fr (fun k => k = br) w w' := by
  have T := rtake_no h (n := 1) (by omega) (by rcases hb with hb | hb; exact .inl hb; exact .inr (by omega))
  have cl := h.here.lt
  go_enter Tryz.func132, Tryz.ntmps132
  go_wp2_with fail
  refine T.mono ?_
  rintro e w1 ⟨rfl, R1, F1⟩
  obtain ⟨c0, c1, c2⟩ := R1.cells
  have cl1 := R1.here.lt
  have HR : Hid (Rd w1 br bb c s i true) := R1
  clear R1 T
  go_wp2_with fail
  go_ret
  exact ⟨rfl, HR.out, F1⟩
theorem u8_ok (h : Rd w br bb c s i false) (hi : i < s.length) :
    Calls Tryz.prog 132 #[.pointer (some ⟨br, 0, none⟩)] w fun e w' => e = .returned (.int .u8 (s[i].toNat : Int)) ∧ Rd w' br bb c s (i + 1) false ∧ Fr (fun k => k = br) w w' := by
  have T := rtake_ok h (n := 1) (by omega)
  have cl := h.here.lt
  go_enter Tryz.func132, Tryz.ntmps132
  go_wp2_with fail
  refine T.mono ?_
  rintro e w1 ⟨⟨a, c', rfl, ha⟩, R1, F1⟩
  obtain ⟨rfl, hc'⟩ := ha (by omega)
  obtain ⟨c0, c1, c2⟩ := R1.cells
  have cl1 := R1.here.lt
  have b0 := R1.bytes i hi
  have bl := R1.lt
  have HR : Hid (Rd w1 br bb c s (i + 1) false) := R1
  clear R1 T
  go_wp2_with fail
  go_ret
  exact ⟨rfl, HR.out, F1⟩
theorem u16_no (h : Rd w br bb c s i bad) (hb : bad = true ∨ s.length < i + 2) :
    Calls Tryz.prog 208 #[.pointer (some ⟨br, 0, none⟩)] w fun e w' => e = .returned (.int .u16 0) ∧ Rd w' br bb c s i true ∧ Fr (fun k => k = br) w w' := by
  have T := rtake_no h (n := 2) (by omega) (by rcases hb with hb | hb; exact .inl hb; exact .inr (by omega))
  have cl := h.here.lt
  go_enter Tryz.func208, Tryz.ntmps208
  go_wp2_with fail
  refine T.mono ?_
  rintro e w1 ⟨rfl, R1, F1⟩
  obtain ⟨c0, c1, c2⟩ := R1.cells
  have cl1 := R1.here.lt
  have HR : Hid (Rd w1 br bb c s i true) := R1
  clear R1 T
  go_wp2_with fail
  go_ret
  exact ⟨rfl, HR.out, F1⟩
theorem or_u16 {x y : Nat} (hx : x < 256) (hy : y < 256) : bits .or .u16 (x : Int) ((y : Int) * 256) = ((x + y * 256 : Nat) : Int) := by
  have e : ((y : Int) * 256) = ((y * 256 : Nat) : Int) := by omega
  rw [e, u16_or_nat x (y * 256) (by omega) (by omega), Nat.or_comm]
  have h := Nat.shiftLeft_add_eq_or_of_lt (i := 8) (b := x) (by omega) y
  rw [Nat.shiftLeft_eq] at h
  rw [show y * 256 = y * 2 ^ 8 by omega, ← h]
  omega
theorem u16N_drop {s : Bs} {i : Nat} (hi : i + 2 ≤ s.length) : u16N (s.drop i) = s[i].toNat + s[i + 1].toNat * 256 := by
  have h0 : (s.drop i).getD 0 0 = s[i] := by
    rw [List.getD_eq_getElem?_getD, List.getElem?_drop, Nat.add_zero, List.getElem?_eq_getElem (by omega)]
    rfl
  have h1 : (s.drop i).getD 1 0 = s[i + 1] := by
    rw [List.getD_eq_getElem?_getD, List.getElem?_drop, List.getElem?_eq_getElem (by omega)]
    rfl
  unfold u16N
  rw [h0, h1]
theorem u16_ok (h : Rd w br bb c s i false) (hi : i + 2 ≤ s.length) :
    Calls Tryz.prog 208 #[.pointer (some ⟨br, 0, none⟩)] w fun e w' => e = .returned (.int .u16 ((u16N (s.drop i) : Nat) : Int)) ∧ Rd w' br bb c s (i + 2) false ∧ Fr (fun k => k = br) w w' := by
  have T := rtake_ok h (n := 2) (by omega)
  obtain ⟨U, HU2⟩ : ∃ U, Hid (u16N (s.drop i) = U) := ⟨_, rfl⟩
  rw [HU2.out]
  have cl := h.here.lt
  go_enter Tryz.func208, Tryz.ntmps208
  go_wp2_with fail
  refine T.mono ?_
  rintro e w1 ⟨⟨a, c', rfl, ha⟩, R1, F1⟩
  obtain ⟨rfl, hc'⟩ := ha (by omega)
  obtain ⟨c0, c1, c2⟩ := R1.cells
  have cl1 := R1.here.lt
  have b0 := R1.bytes i (by omega)
  have b1 := R1.bytes (i + 1) (by omega)
  have bl := R1.lt
  have HU := u16N_drop hi
  have x8 := s[i].toNat_lt
  have y8 := s[i + 1].toNat_lt
  generalize s[i].toNat = x at b0 HU x8
  generalize s[i + 1].toNat = y at b1 HU y8
  rw [HU2.out] at HU
  have HU3 : Hid (U = x + y * 256) := HU
  clear HU HU2
  have hor := or_u16 (x := x) (y := y) (by omega) (by omega)
  have HR : Hid (Rd w1 br bb c s (i + 2) false) := R1
  have HOR : Hid (bits .or .u16 (x : Int) ((y : Int) * 256) = ((x + y * 256 : Nat) : Int)) := hor
  clear R1 T hor h
  go_wp2_with fail
  refine wp_region_quiet_lit (by kernel_rfl) (by kernel_rfl) ?_
  repeat go_big_quiet_step (fail)
  refine wpQuiet_nil ?_
  rintro w' ⟨nq, rfl⟩
  rw [HOR.out, ← HU3.out]
  go_wp2_with fail
  go_ret
  exact ⟨rfl, HR.out.fr ((Fr.refl (fun _ => False) w1).drewN nq) (fun x => x) (fun x => x), F1.drewN nq⟩
end
end Go.Proofs.Qxb6500574aGreatDoor
