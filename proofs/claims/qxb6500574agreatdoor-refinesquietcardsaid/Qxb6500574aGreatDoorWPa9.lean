/-
  THE WALK of the parser layer: the parser: prim.
-/
import Derived.Test.Qxb6500574aGreatDoorWPa8
namespace Go.Proofs.Qxb6500574aGreatDoor
open Go Go.RowKit
set_option linter.unusedVariables false
set_option linter.unusedSimpArgs false
open Go.Lib
section
set_option maxRecDepth 100000
set_option maxHeartbeats 2000000
variable {w : World} {o : Nat → Nat} {bp : Nat} {sl : Sl} {T : List Tok} {s : PSt} {n room : Nat}
theorem par5 : parN T (n + 1) 5 room [] s = if (curT T s).k = 3 then okP s.nxt ⟨15, 0, 0, 0, 0, (curT T s).n, [], (curT T s).p⟩
      else if (curT T s).k = 4 then okP s.nxt ⟨16, 0, 0, 0, 0, 0, (curT T s).s, (curT T s).p⟩
      else if (curT T s).k = 2 then okP s.nxt ⟨17, 0, 0, 0, 0, 0, (curT T s).s, (curT T s).p⟩
      else if (curT T s).k = 16 then okP s.nxt ⟨12, 0, 0, 0, 0, 0, [], (curT T s).p⟩
      else if (curT T s).k = 20 then okP s.nxt ⟨13, 0, 0, 0, 0, 0, [], (curT T s).p⟩
      else if (curT T s).k = 10 then okP s.nxt ⟨14, 0, 0, 0, 0, 0, [], (curT T s).p⟩
      else if (curT T s).k = 39 then PBd (parN T n 0 (room - 1) [1] s.nxt) (fun v s1 => expectP T s1 40 fun s2 => .inr (v, s2))
      else if (curT T s).k = 12 then (if 12 ≤ s.funcs then failP T s 20 else parN T n 7 room [(curT T s).p] s.nxt)
      else if (curT T s).k = 41 then PBd (parN T n 6 (room - 1) [42, 0, 0, 0, 0] s.nxt) (fun v s1 => okP s1 ⟨21, v.getD 0 0, 0, 0, 0, 0, [], (curT T s).p⟩)
      else failP T s 15 := by
  conv => lhs; unfold parN
  simp (config := {decide := true}) only [if_true, if_false]
theorem ExS.from {w4 w' : World} {sx s' : PSt} {v : Nat} {V : Value} (h : ExS w4 o bp T sl sx s' v w' V) (t : w.heap.size ≤ w4.heap.size) (al : Alike s sx) : ExS w o bp T sl s s' v w' V := by
  refine ⟨h.r, h.f.from al.symm, ?_⟩
  have := h.t.wide (a' := w.heap.size) (b' := w'.heap.size) t (Nat.le_refl _)
  rw [al.n] at this
  exact this
theorem prim_any (C : PCs T n) (g : PGd w o bp T sl s) (r1 : 1 ≤ room) (hr : room ≤ 12) (hx : parN T (n + 1) 5 room [] s ≠ x99) : Calls Tryz.prog 227 #[.pointer (some ⟨bp, 0, none⟩), .int .i64 (room : Nat)] w (ExQ w o bp T sl s (parN T (n + 1) 5 room [] s)) := by
  have E := @par5 T s n room
  obtain ⟨R, HR⟩ : ∃ R, Hid (parN T (n + 1) 5 room [] s = R) := ⟨_, rfl⟩
  rw [HR.out] at hx E ⊢
  clear HR
  obtain ⟨hb, c2, c3, c4, c5, c6⟩ := g.r.cells
  have hnew := g.r.new
  have HX : Hid (R ≠ x99) := hx
  have HG : Hid (PGd w o bp T sl s) := g
  have HC : Hid (PCs T n) := C
  have NX : (curT T s).k ≠ 0 → (curT T s).k ≠ 1 → Hid (∀ ob, Calls Tryz.prog 155 #[.pointer (some ⟨bp, 0, none⟩)] (w.alloc ob) fun e w' => e = .returned (.tuple #[]) ∧ PRep w' o bp T sl s.nxt ∧ Stp (fun l => l = 1043) (w.alloc ob) o w' o) := fun h1 h2 ob => (HG.out.r.alloc ob).next HG.out.g h1 h2
  have hnum : (curT T s).k = 3 → (curT T s).n < 18446744073709551616 := fun h => (g.g.tok.nu s.i h).1
  have HRM : Hid (((room - 1 : Nat) : Int) = (room : Int) - 1) := by
    show _ = _
    omega
  clear g C hx
  go_enter Tryz.func227, Tryz.ntmps227
  by_cases k3 : (curT T s).k = 3
  · rw [if_pos k3] at E
    replace NX := NX (by omega) (by omega)
    rw [k3] at c2
    have HE : Hid (R = _) := E
    have hn2 := hnum k3
    clear E
    generalize curT T s = t at *
    go_wp2_with fail
    refine (NX.out _).mono ?_
    rintro e9 w4 ⟨rfl, q1, q2⟩
    have d := q2.has (Has.new w #[.int .i64 3, .int .i64 t.p, sv t.s, .int .u64 t.n, .int .i64 t.e] 132) (by rw [hnew]; omega)
    have d1 := d.cell 1
    have d2 := d.cell 2
    have d3 := d.cell 3
    have dl := d.lt
    simp only [List.getElem?_toArray, List.getElem?_cons_succ, List.getElem?_cons_zero] at d1 d2 d3
    have HQ4 : Hid (Stp (fun l => l = 1043) w o w4 o) := (Stp.fresh _ o ((Fr.refl _ _).alloc _)).trans q2
    have HR4 : Hid (PRep w4 o bp T sl s.nxt) := q1
    clear q1 q2 d NX
    go_wp2_with fail
    go_ret
    exact ⟨HQ4.out.alloc _, .inr ⟨_, _, _, _, HE.out, rfl, leaf_fin HQ4.out HG.out.r.ow HR4.out HG.out.k (Alike.nxt s) rfl (.num hn2)⟩⟩
  rw [if_neg k3] at E
  have i3 : (((curT T s).k : Int) == 3) = false := by simp; omega
  by_cases k4 : (curT T s).k = 4
  · rw [if_pos k4] at E
    replace NX := NX (by omega) (by omega)
    rw [k4] at c2
    have HE : Hid (R = _) := E
    clear E
    generalize curT T s = t at *
    go_wp2_with fail
    refine (NX.out _).mono ?_
    rintro e9 w4 ⟨rfl, q1, q2⟩
    have d := q2.has (Has.new w #[.int .i64 4, .int .i64 t.p, sv t.s, .int .u64 t.n, .int .i64 t.e] 132) (by rw [hnew]; omega)
    have d1 := d.cell 1
    have d2 := d.cell 2
    have d3 := d.cell 3
    have dl := d.lt
    simp only [List.getElem?_toArray, List.getElem?_cons_succ, List.getElem?_cons_zero] at d1 d2 d3
    have HQ4 : Hid (Stp (fun l => l = 1043) w o w4 o) := (Stp.fresh _ o ((Fr.refl _ _).alloc _)).trans q2
    have HR4 : Hid (PRep w4 o bp T sl s.nxt) := q1
    clear q1 q2 d NX
    go_wp2_with fail
    go_ret
    exact ⟨HQ4.out.alloc _, .inr ⟨_, _, _, _, HE.out, rfl, leaf_fin HQ4.out HG.out.r.ow HR4.out HG.out.k (Alike.nxt s) rfl .str⟩⟩
  rw [if_neg k4] at E
  have i4 : (((curT T s).k : Int) == 4) = false := by simp; omega
  by_cases k2 : (curT T s).k = 2
  · rw [if_pos k2] at E
    replace NX := NX (by omega) (by omega)
    rw [k2] at c2
    have HE : Hid (R = _) := E
    clear E
    generalize curT T s = t at *
    go_wp2_with fail
    refine (NX.out _).mono ?_
    rintro e9 w4 ⟨rfl, q1, q2⟩
    have d := q2.has (Has.new w #[.int .i64 2, .int .i64 t.p, sv t.s, .int .u64 t.n, .int .i64 t.e] 132) (by rw [hnew]; omega)
    have d1 := d.cell 1
    have d2 := d.cell 2
    have d3 := d.cell 3
    have dl := d.lt
    simp only [List.getElem?_toArray, List.getElem?_cons_succ, List.getElem?_cons_zero] at d1 d2 d3
    have HQ4 : Hid (Stp (fun l => l = 1043) w o w4 o) := (Stp.fresh _ o ((Fr.refl _ _).alloc _)).trans q2
    have HR4 : Hid (PRep w4 o bp T sl s.nxt) := q1
    clear q1 q2 d NX
    go_wp2_with fail
    go_ret
    exact ⟨HQ4.out.alloc _, .inr ⟨_, _, _, _, HE.out, rfl, leaf_fin HQ4.out HG.out.r.ow HR4.out HG.out.k (Alike.nxt s) rfl .name⟩⟩
  rw [if_neg k2] at E
  have i2 : (((curT T s).k : Int) == 2) = false := by simp; omega
  by_cases k16 : (curT T s).k = 16
  · rw [if_pos k16] at E
    replace NX := NX (by omega) (by omega)
    rw [k16] at c2
    have HE : Hid (R = _) := E
    clear E
    generalize curT T s = t at *
    go_wp2_with fail
    refine (NX.out _).mono ?_
    rintro e9 w4 ⟨rfl, q1, q2⟩
    have d := q2.has (Has.new w #[.int .i64 16, .int .i64 t.p, sv t.s, .int .u64 t.n, .int .i64 t.e] 132) (by rw [hnew]; omega)
    have d1 := d.cell 1
    have d2 := d.cell 2
    have d3 := d.cell 3
    have dl := d.lt
    simp only [List.getElem?_toArray, List.getElem?_cons_succ, List.getElem?_cons_zero] at d1 d2 d3
    have HQ4 : Hid (Stp (fun l => l = 1043) w o w4 o) := (Stp.fresh _ o ((Fr.refl _ _).alloc _)).trans q2
    have HR4 : Hid (PRep w4 o bp T sl s.nxt) := q1
    clear q1 q2 d NX
    go_wp2_with fail
    go_ret
    exact ⟨HQ4.out.alloc _, .inr ⟨_, _, _, _, HE.out, rfl, leaf_fin HQ4.out HG.out.r.ow HR4.out HG.out.k (Alike.nxt s) rfl (.lit (.inl rfl))⟩⟩
  rw [if_neg k16] at E
  have i16 : (((curT T s).k : Int) == 16) = false := by simp; omega
  by_cases k20 : (curT T s).k = 20
  · rw [if_pos k20] at E
    replace NX := NX (by omega) (by omega)
    rw [k20] at c2
    have HE : Hid (R = _) := E
    clear E
    generalize curT T s = t at *
    go_wp2_with fail
    refine (NX.out _).mono ?_
    rintro e9 w4 ⟨rfl, q1, q2⟩
    have d := q2.has (Has.new w #[.int .i64 20, .int .i64 t.p, sv t.s, .int .u64 t.n, .int .i64 t.e] 132) (by rw [hnew]; omega)
    have d1 := d.cell 1
    have d2 := d.cell 2
    have d3 := d.cell 3
    have dl := d.lt
    simp only [List.getElem?_toArray, List.getElem?_cons_succ, List.getElem?_cons_zero] at d1 d2 d3
    have HQ4 : Hid (Stp (fun l => l = 1043) w o w4 o) := (Stp.fresh _ o ((Fr.refl _ _).alloc _)).trans q2
    have HR4 : Hid (PRep w4 o bp T sl s.nxt) := q1
    clear q1 q2 d NX
    go_wp2_with fail
    go_ret
    exact ⟨HQ4.out.alloc _, .inr ⟨_, _, _, _, HE.out, rfl, leaf_fin HQ4.out HG.out.r.ow HR4.out HG.out.k (Alike.nxt s) rfl (.lit (.inr (.inl rfl)))⟩⟩
  rw [if_neg k20] at E
  have i20 : (((curT T s).k : Int) == 20) = false := by simp; omega
  by_cases k10 : (curT T s).k = 10
  · rw [if_pos k10] at E
    replace NX := NX (by omega) (by omega)
    rw [k10] at c2
    have HE : Hid (R = _) := E
    clear E
    generalize curT T s = t at *
    go_wp2_with fail
    refine (NX.out _).mono ?_
    rintro e9 w4 ⟨rfl, q1, q2⟩
    have d := q2.has (Has.new w #[.int .i64 10, .int .i64 t.p, sv t.s, .int .u64 t.n, .int .i64 t.e] 132) (by rw [hnew]; omega)
    have d1 := d.cell 1
    have d2 := d.cell 2
    have d3 := d.cell 3
    have dl := d.lt
    simp only [List.getElem?_toArray, List.getElem?_cons_succ, List.getElem?_cons_zero] at d1 d2 d3
    have HQ4 : Hid (Stp (fun l => l = 1043) w o w4 o) := (Stp.fresh _ o ((Fr.refl _ _).alloc _)).trans q2
    have HR4 : Hid (PRep w4 o bp T sl s.nxt) := q1
    clear q1 q2 d NX
    go_wp2_with fail
    go_ret
    exact ⟨HQ4.out.alloc _, .inr ⟨_, _, _, _, HE.out, rfl, leaf_fin HQ4.out HG.out.r.ow HR4.out HG.out.k (Alike.nxt s) rfl (.lit (.inr (.inr rfl)))⟩⟩
  rw [if_neg k10] at E
  have i10 : (((curT T s).k : Int) == 10) = false := by simp; omega
  by_cases k39 : (curT T s).k = 39
  · rw [if_pos k39] at E
    replace NX := NX (by omega) (by omega)
    rw [k39] at c2
    have hx9 : parN T n 0 (room - 1) [1] s.nxt ≠ x99 := PB_ne (by rw [← E]; exact HX.out)
    have EXC : Hid (∀ w4, PGd w4 o bp T sl s.nxt → Calls Tryz.prog 159 #[.pointer (some ⟨bp, 0, none⟩), .int .i64 ((room : Int) - 1), .int .i64 1] w4 (ExQ w4 o bp T sl s.nxt (parN T n 0 (room - 1) [1] s.nxt))) := fun w4 g4 => by
      have := HC.out.c0 (x := 1) g4 (by omega) (by omega) (by omega) hx9
      rw [HRM.out] at this
      exact this
    have HE : Hid (R = _) := E
    clear E hx9
    generalize curT T s = t at *
    go_wp2_with fail
    refine (NX.out _).mono ?_
    rintro e9 w4 ⟨rfl, q1, q2⟩
    have HD : Hid (Has w4 w.heap.size #[.int .i64 39, .int .i64 t.p, sv t.s, .int .u64 t.n, .int .i64 t.e] 132) := q2.has (Has.new w _ 132) (by rw [hnew]; omega)
    have HQ4 : Hid (Stp (fun l => l = 1043) w o w4 o) := (Stp.fresh _ o ((Fr.refl _ _).alloc _)).trans q2
    have HG4 : Hid (PGd w4 o bp T sl s.nxt) := HG.out.st HQ4.out q1 ((Alike.nxt s).sok HG.out.k)
    clear q1 q2 NX
    go_wp2_with fail
    refine (EXC.out _ HG4.out).mono ?_
    rintro e10 w5 ⟨q5, q6⟩
    have HQ5 : Hid (Stp (fun l => l = 1043) w4 o w5 o) := q5
    clear q5 EXC HD
    rcases q6 with ⟨y, hy, rfl, hpe⟩ | ⟨u, s5, t5, b5, hy, rfl, Y⟩
    · have HPE : Hid (PErr w5 o bp y.1 y.2) := hpe
      have HE5 : Hid (R = .inl y) := by
        show R = _
        rw [HE.out, hy]; rfl
      clear hpe hy
      go_wp2_with fail
      go_ret
      exact ⟨HQ4.out.trans HQ5.out, .inl ⟨y, HE5.out, rfl, HPE.out⟩⟩
    · have HY : Hid (ExS w4 o bp T sl s.nxt s5 (u.getD 0 0) w5 (.iface t5 (.pointer (some ⟨b5, 0, none⟩)))) := Y
      have HE5 : Hid (R = expectP T s5 40 (fun s2 => .inr (u, s2))) := by
        show R = _
        rw [HE.out, hy]; rfl
      clear Y hy
      by_cases h40 : (curT T s5).k = 40
      · have HE6 : Hid (R = .inr (u, s5.nxt)) := by
          have := HE5.out
          unfold expectP at this
          rw [if_pos h40] at this
          exact this
        have XP := HY.out.r.expect_yes HG.out.g h40 (by decide) (by decide)
        clear HE5
        go_wp2_with fail
        refine XP.mono ?_
        rintro e11 w6 ⟨rfl, q7, q8⟩
        have HQ6 : Hid (Stp (fun l => l = 1043) w5 o w6 o) := q8
        have HR6 : Hid (PRep w6 o bp T sl s5.nxt) := q7
        clear q7 q8 XP
        go_wp2_with fail
        go_ret
        have Y := HY.out.stp HQ5.out HQ6.out (HQ4.out.hi HG.out.r.ow) HR6.out (Alike.nxt s5)
        exact ⟨HQ4.out.trans (HQ5.out.trans HQ6.out), .inr ⟨_, _, _, _, HE6.out, rfl, Y.from HQ4.out.fr.size (Alike.nxt s)⟩⟩
      · obtain ⟨y, hy⟩ : ∃ y, failP T s5 15 = .inl y := ⟨_, rfl⟩
        have HE6 : Hid (R = .inl y) := by
          have := HE5.out
          unfold expectP at this
          rw [if_neg h40, hy] at this
          exact this
        have XP := HY.out.r.expect_no h40 hy
        clear HE5
        go_wp2_with fail
        refine XP.mono ?_
        rintro e11 w6 ⟨rfl, q7, q8⟩
        have HQ6 : Hid (Stp (fun l => l = 1043) w5 o w6 o) := q8
        have HPE : Hid (PErr w6 o bp y.1 y.2) := q7
        clear q7 q8 XP
        go_wp2_with fail
        go_ret
        exact ⟨HQ4.out.trans (HQ5.out.trans HQ6.out), .inl ⟨y, HE6.out, rfl, HPE.out⟩⟩
  rw [if_neg k39] at E
  have i39 : (((curT T s).k : Int) == 39) = false := by simp; omega
  by_cases k12 : (curT T s).k = 12
  · rw [if_pos k12] at E
    by_cases hf : 12 ≤ s.funcs
    · rw [if_pos hf] at E
      obtain ⟨y, hy⟩ : ∃ y, failP T s 20 = .inl y := ⟨_, rfl⟩
      have HE : Hid (R = .inl y) := E.trans hy
      have FU : Hid (∀ ob, Calls Tryz.prog 221 #[.pointer (some ⟨bp, 0, none⟩)] (w.alloc ob) fun e w' => e = .returned (.bool false) ∧ PErr w' o bp y.1 y.2 ∧ Stp (fun l => l = 1043) (w.alloc ob) o w' o) := fun ob => (HG.out.r.alloc ob).func_no hf hy
      clear E hy NX
      rw [k12] at c2
      generalize curT T s = t at *
      go_wp2_with fail
      refine (FU.out _).mono ?_
      rintro e9 w4 ⟨rfl, q1, q2⟩
      have HQ4 : Hid (Stp (fun l => l = 1043) w o w4 o) := (Stp.fresh _ o ((Fr.refl _ _).alloc _)).trans q2
      have HPE : Hid (PErr w4 o bp y.1 y.2) := q1
      clear q1 q2
      go_wp2_with fail
      go_ret
      exact ⟨HQ4.out, .inl ⟨y, HE.out, rfl, HPE.out⟩⟩
    · rw [if_neg hf] at E
      have hx9 : parN T n 7 room [(curT T s).p] s.nxt ≠ x99 := by rw [← E]; exact HX.out
      have FU : Hid (∀ ob, Calls Tryz.prog 221 #[.pointer (some ⟨bp, 0, none⟩)] (w.alloc ob) fun e w' => e = .returned (.bool true) ∧ PRep w' o bp T sl s.nxt ∧ Stp (fun l => l = 1043) (w.alloc ob) o w' o) := fun ob => (HG.out.r.alloc ob).func_yes HG.out.g (by omega) (by omega) (by omega)
      have LI : Hid (∀ w4, PGd w4 o bp T sl s.nxt → Calls Tryz.prog 223 #[.pointer (some ⟨bp, 0, none⟩), .int .i64 (room : Int), .int .i64 (curT T s).p] w4 (FnQ w4 o bp T sl s.nxt R)) := fun w4 g4 => by
        show Calls _ _ _ _ _
        rw [E]
        exact HC.out.c7 g4 r1 hr (by show s.funcs < 12; omega) hx9
      clear E hx9 NX
      rw [k12] at c2
      generalize curT T s = t at *
      go_wp2_with fail
      refine (FU.out _).mono ?_
      rintro e9 w4 ⟨rfl, q1, q2⟩
      have d := q2.has (Has.new w #[.int .i64 12, .int .i64 t.p, sv t.s, .int .u64 t.n, .int .i64 t.e] 132) (by rw [hnew]; omega)
      have d1 := d.cell 1
      have dl := d.lt
      simp only [List.getElem?_toArray, List.getElem?_cons_succ, List.getElem?_cons_zero] at d1
      have HQ4 : Hid (Stp (fun l => l = 1043) w o w4 o) := (Stp.fresh _ o ((Fr.refl _ _).alloc _)).trans q2
      have HG4 : Hid (PGd w4 o bp T sl s.nxt) := HG.out.st HQ4.out q1 ((Alike.nxt s).sok HG.out.k)
      clear q1 q2 d
      go_wp2_with fail
      refine (LI.out _ HG4.out).mono ?_
      rintro e10 w5 ⟨q5, q6⟩
      have HQ5 : Hid (Stp (fun l => l = 1043) w4 o w5 o) := q5
      clear q5 LI
      rcases q6 with ⟨y, hy, rfl, hpe⟩ | ⟨u, s5, b5, hy, rfl, Y⟩
      · have HPE : Hid (PErr w5 o bp y.1 y.2) := hpe
        have HE5 : Hid (R = .inl y) := hy
        clear hpe hy
        go_wp2_with fail
        go_ret
        exact ⟨HQ4.out.trans HQ5.out, .inl ⟨y, HE5.out, rfl, HPE.out⟩⟩
      · have HY : Hid (ExS w4 o bp T sl s.nxt s5 (u.getD 0 0) w5 (.iface 354 (.pointer (some ⟨b5, 0, none⟩)))) := Y
        have HE5 : Hid (R = .inr (u, s5)) := hy
        clear Y hy
        go_wp2_with fail
        go_ret
        exact ⟨HQ4.out.trans HQ5.out, .inr ⟨_, _, _, _, HE5.out, rfl, HY.out.from HQ4.out.fr.size (Alike.nxt s)⟩⟩
  rw [if_neg k12] at E
  have i12 : (((curT T s).k : Int) == 12) = false := by simp; omega
  by_cases k41 : (curT T s).k = 41
  · rw [if_pos k41] at E
    replace NX := NX (by omega) (by omega)
    rw [k41] at c2
    have hx9 : parN T n 6 (room - 1) [42, 0, 0, 0, 0] s.nxt ≠ x99 := PB_ne (by rw [← E]; exact HX.out)
    have LIC : Hid (∀ w4, PGd w4 o bp T sl s.nxt → Calls Tryz.prog 228 #[.pointer (some ⟨bp, 0, none⟩), .int .i64 ((room : Int) - 1), .int .i64 42, .int .i64 (-1)] w4 (LsQ w4 o bp T sl s.nxt (parN T n 6 (room - 1) [42, 0, 0, 0, 0] s.nxt))) := fun w4 g4 => by
      have := HC.out.c6 g4 (room := room - 1) (by omega) 42 0 (.inr ⟨rfl, rfl⟩) hx9
      rw [HRM.out] at this
      exact this
    have HE : Hid (R = _) := E
    clear E hx9
    generalize curT T s = t at *
    go_wp2_with fail
    refine (NX.out _).mono ?_
    rintro e9 w4 ⟨rfl, q1, q2⟩
    have HD : Hid (Has w4 w.heap.size #[.int .i64 41, .int .i64 t.p, sv t.s, .int .u64 t.n, .int .i64 t.e] 132) := q2.has (Has.new w _ 132) (by rw [hnew]; omega)
    have HQ4 : Hid (Stp (fun l => l = 1043) w o w4 o) := (Stp.fresh _ o ((Fr.refl _ _).alloc _)).trans q2
    have HG4 : Hid (PGd w4 o bp T sl s.nxt) := HG.out.st HQ4.out q1 ((Alike.nxt s).sok HG.out.k)
    clear q1 q2 NX
    go_wp2_with fail
    refine (LIC.out _ HG4.out).mono ?_
    rintro e10 w5 ⟨q5, q6⟩
    have d1 := (q5.has HD.out (by rw [hnew]; omega)).cell 1
    have dl := (q5.has HD.out (by rw [hnew]; omega)).lt
    simp only [List.getElem?_toArray, List.getElem?_cons_succ, List.getElem?_cons_zero] at d1
    have HQ5 : Hid (Stp (fun l => l = 1043) w4 o w5 o) := q5
    clear q5 LIC HD
    rcases q6 with ⟨y, hy, rfl, hpe⟩ | ⟨u, s5, sa, ln, cp, ms, m, hy, rfl, Y⟩
    · have HPE : Hid (PErr w5 o bp y.1 y.2) := hpe
      have HE5 : Hid (R = .inl y) := by
        show R = _
        rw [HE.out, hy]; rfl
      clear hpe hy
      go_wp2_with fail
      go_ret
      exact ⟨HQ4.out.trans HQ5.out, .inl ⟨y, HE5.out, rfl, HPE.out⟩⟩
    · have HY : Hid (LsS w4 o bp T sl s.nxt s5 (u.getD 0 0) w5 (.slice sa ln cp) ms m) := Y
      have HE5 : Hid (R = .inr ([s5.nodes.length], s5.add ⟨21, u.getD 0 0, 0, 0, 0, 0, [], t.p⟩)) := by
        show R = _
        rw [HE.out, hy]; rfl
      clear Y hy
      go_wp2_with fail
      go_ret
      exact ⟨(HQ4.out.trans HQ5.out).alloc _, .inr ⟨_, _, _, _, HE5.out, rfl, list_fin HQ4.out HQ5.out HG.out.r.ow HG.out.k.n1 HY.out (Alike.nxt s) rfl (.table HY.out.v)⟩⟩
  rw [if_neg k41] at E
  have i41 : (((curT T s).k : Int) == 41) = false := by simp; omega
  obtain ⟨y, hy⟩ : ∃ y, failP T s 15 = .inl y := ⟨_, rfl⟩
  have HF : Hid (∀ ob, Calls Tryz.prog 62 #[.pointer (some ⟨bp, 0, none⟩), .int .i64 15] (w.alloc ob) fun e w' => e = .returned (.tuple #[]) ∧ PErr w' o bp y.1 y.2 ∧ Stp (fun l => l = 1043) (w.alloc ob) o w' o) := fun ob => (HG.out.r.alloc ob).fail hy
  have HE : Hid (R = .inl y) := E.trans hy
  clear E hy NX
  generalize curT T s = t at *
  go_wp2_with fail
  refine (HF.out _).mono ?_
  rintro e1 w1 ⟨rfl, q1, q2⟩
  have HQ1 : Hid (PErr w1 o bp y.1 y.2) := q1
  have HQ2 : Hid (Stp (fun l => l = 1043) w o w1 o) := (Stp.fresh _ o ((Fr.refl _ _).alloc _)).trans q2
  clear q1 q2
  go_wp2_with fail
  go_ret
  exact ⟨HQ2.out, .inl ⟨y, HE.out, rfl, HQ1.out⟩⟩
end
end Go.Proofs.Qxb6500574aGreatDoor
