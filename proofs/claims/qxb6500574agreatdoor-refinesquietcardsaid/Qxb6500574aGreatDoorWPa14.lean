/-
  THE WALK of the parser layer: the parser: body.
-/
import Derived.Test.Qxb6500574aGreatDoorWPa11
namespace Go.Proofs.Qxb6500574aGreatDoor
open Go Go.RowKit
set_option linter.unusedVariables false
set_option linter.unusedSimpArgs false
open Go.Lib
section
set_option maxRecDepth 100000
set_option maxHeartbeats 2000000
variable {w : World} {o : Nat → Nat} {bp : Nat} {sl : Sl} {T : List Tok} {s : PSt} {n room : Nat}
theorem par15 {x : Nat} : parN T (n + 1) 15 room [x] s = expectP T s 6 fun s => PBd (parN T n 9 (room - 1) [] { s with alive := s.alive + x, loops := s.loops + 1 }) fun v s => expectP T s 9 fun s => .inr (v, { s with alive := s.alive - x, loops := s.loops - 1 }) := by
  conv => lhs; unfold parN
  simp (config := {decide := true}) only [if_true, if_false]
  rfl
theorem body_any {x : Nat} (C : PCs T n) (g : PGd w o bp T sl s) (r1 : 1 ≤ room) (hr : s.loops + room ≤ 12) (ha : s.alive + x ≤ 12) (hx : parN T (n + 1) 15 room [x] s ≠ x99) : Calls Tryz.prog 160 #[.pointer (some ⟨bp, 0, none⟩), .int .i64 (room : Nat), .int .i64 (x : Nat)] w (LsQ w o bp T sl s (parN T (n + 1) 15 room [x] s)) := by
  have E := @par15 T s n room x
  obtain ⟨R, HR⟩ : ∃ R, Hid (parN T (n + 1) 15 room [x] s = R) := ⟨_, rfl⟩
  have HF0 : Hid (∀ v s', R = .inr (v, s') → LF s s') := fun v s' h => by
    have := (PA.all g.g.tok (n + 1)).p15 room [x] s (v, s') g.k ha (HR.out.trans h) r1 (by omega)
    exact ⟨this.kp, ⟨Nat.le_trans g.k.n1 this.kp.le, this.kp.f12, by have e := this.av; have := g.k.al; show s'.alive ≤ 12; rw [show s'.alive = s.alive from e]; exact this⟩, this.av⟩
  rw [HR.out] at hx E ⊢
  have HX : Hid (R ≠ x99) := hx
  have HG : Hid (PGd w o bp T sl s) := g
  have HC : Hid (PCs T n) := C
  have HE : Hid (R = _) := E
  have hb := g.r.cells.1
  clear g C hx HR E
  go_enter Tryz.func160, Tryz.ntmps160
  go_wp2_with fail
  refine (HG.out.expectC 6 (by decide) (by decide)).mono ?_
  rintro e1 w1 ⟨a1, ⟨y, rfl, a2, a3⟩ | ⟨rfl, a2, a3⟩⟩
  · have HS1 : Hid (Stp (fun l => l = 1043) w o w1 o) := a1
    have HY : Hid (R = .inl y) := by
      show R = _
      rw [HE.out, a2]
    have HPE : Hid (PErr w1 o bp y.1 y.2) := a3
    clear a1 a2 a3
    go_wp2_with fail
    go_ret2
    exact LsQ.bad HS1.out HY.out HPE.out
  have HS1 : Hid (Stp (fun l => l = 1043) w o w1 o) := a1
  have HE1 : Hid (R = PBd (parN T n 9 (room - 1) [] { s.nxt with alive := s.alive + x, loops := s.loops + 1 }) fun v s => expectP T s 9 fun s => .inr (v, { s with alive := s.alive - x, loops := s.loops - 1 })) := by
    show R = _
    rw [HE.out, a2]
    rfl
  obtain ⟨G2, S2⟩ := a3.alive (x := s.alive + x) (u := (s.alive : Int) + x) ha (by simp)
  obtain ⟨G3, S3⟩ := G2.loops (x := s.loops + 1) (u := (s.loops : Int) + 1) (by simp)
  have HG3 : Hid (PGd ((w1.setCell ⟨bp, 7, none⟩ (.int .i64 ((s.alive : Int) + x))).setCell ⟨bp, 8, none⟩ (.int .i64 ((s.loops : Int) + 1))) o bp T sl { s.nxt with alive := s.alive + x, loops := s.loops + 1 }) := G3
  have HS3 : Hid (Stp (fun l => l = 1043) w o ((w1.setCell ⟨bp, 7, none⟩ (.int .i64 ((s.alive : Int) + x))).setCell ⟨bp, 8, none⟩ (.int .i64 ((s.loops : Int) + 1))) o) := a1.trans (S2.trans S3)
  have hb1 := a3.r.cells.1
  obtain ⟨c7, c8, _, z⟩ := a3.r.cells2
  have z7 := z 7
  have z8 := z 8
  rw [show s.nxt.alive = s.alive from rfl] at c7
  rw [show s.nxt.loops = s.loops from rfl] at c8
  obtain ⟨s3, HS0⟩ : ∃ s0 : PSt, Hid (({ s.nxt with alive := s.alive + x, loops := s.loops + 1 } : PSt) = s0) := ⟨_, rfl⟩
  rw [HS0.out] at HG3 HE1
  have hx9 : parN T n 9 (room - 1) [] s3 ≠ x99 := PB_ne (by rw [← HE1.out]; exact HX.out)
  have hrm : ((room - 1 : Nat) : Int) = (room : Int) - 1 := by omega
  have hl3 : s3.loops = s.loops + 1 := by rw [← HS0.out]
  have ha3 : s3.alive = s.alive + x := by rw [← HS0.out]
  have HN3 : Hid (s3.nodes = s.nodes) := by
    show s3.nodes = _
    rw [← HS0.out]; rfl
  have BL : Hid (∀ w3, PGd w3 o bp T sl s3 → Calls Tryz.prog 61 #[.pointer (some ⟨bp, 0, none⟩), .int .i64 ((room : Int) - 1)] w3 (LsQ w3 o bp T sl s3 (parN T n 9 (room - 1) [] s3))) := fun w3 g3 => by
    have := HC.out.c9 g3 (by rw [hl3]; omega) hx9
    rw [hrm] at this
    exact this
  have hbl : (s.loops : Int) + 1 ≤ 13 := by omega
  have hba : (s.alive : Int) + x ≤ 12 := by omega
  clear a1 a2 a3 G2 S2 G3 S3 HE hx9 z
  go_wp2_with fail
  obtain ⟨w3, HW3⟩ : ∃ w3, Hid ((w1.setCell ⟨bp, 7, none⟩ (.int .i64 ((s.alive : Int) + x))).setCell ⟨bp, 8, none⟩ (.int .i64 ((s.loops : Int) + 1)) = w3) := ⟨_, rfl⟩
  rw [HW3.out] at HG3 HS3 ⊢
  clear HW3 c7 c8 z7 z8 hb1
  refine (BL.out _ HG3.out).mono ?_
  rintro e4 w4 ⟨q1, ⟨y, hy, rfl, hpe⟩ | ⟨v, s4, sa, ln, cp, ms, m, hy, rfl, X⟩⟩
  · have HPE : Hid (PErr w4 o bp y.1 y.2) := hpe
    have HY : Hid (R = .inl y) := by
      show R = _
      rw [HE1.out, hy]; rfl
    have HS4 : Hid (Stp (fun l => l = 1043) w3 o w4 o) := q1
    clear q1 hpe hy
    go_wp2_with fail
    go_ret2
    exact LsQ.bad (HS3.out.trans HS4.out) HY.out HPE.out
  have HX4 : Hid (LsS w3 o bp T sl s3 s4 (v.getD 0 0) w4 (.slice sa ln cp) ms m) := X
  have HS4 : Hid (Stp (fun l => l = 1043) w3 o w4 o) := q1
  have HG4 : Hid (PGd w4 o bp T sl s4) := HG3.out.st q1 X.r X.f.ok
  have HE4 : Hid (R = expectP T s4 9 fun s => .inr (v, { s with alive := s.alive - x, loops := s.loops - 1 })) := by
    show R = _
    rw [HE1.out, hy]; rfl
  have hl4 : s4.loops = s.loops + 1 := X.f.kp.lp.trans hl3
  have ha4 : s4.alive = s.alive + x := X.f.al.trans ha3
  clear q1 X hy HE1
  go_wp2_with fail
  refine (HG4.out.expectC 9 (by decide) (by decide)).mono ?_
  rintro e5 w5 ⟨a1, ⟨y, rfl, a2, a3⟩ | ⟨rfl, a2, a3⟩⟩
  · have HS5 : Hid (Stp (fun l => l = 1043) w4 o w5 o) := a1
    have HY : Hid (R = .inl y) := by
      show R = _
      rw [HE4.out, a2]
    have HPE : Hid (PErr w5 o bp y.1 y.2) := a3
    clear a1 a2 a3
    go_wp2_with fail
    go_ret2
    exact LsQ.bad (HS3.out.trans (HS4.out.trans HS5.out)) HY.out HPE.out
  have HE5 : Hid (R = .inr (v, { s4.nxt with alive := s.alive, loops := s.loops })) := by
    show R = _
    rw [HE4.out, a2]
    show Sum.inr (v, ({ s4.nxt with alive := s4.alive - x, loops := s4.loops - 1 } : PSt)) = _
    rw [hl4, ha4, Nat.add_sub_cancel, Nat.add_sub_cancel]
  obtain ⟨G6, S6⟩ := a3.loops (x := s.loops) (u := (s.loops : Int)) rfl
  obtain ⟨G7, S7⟩ := G6.alive (x := s.alive) (u := (s.alive : Int)) (by omega) rfl
  have HG7 : Hid (PGd ((w5.setCell ⟨bp, 8, none⟩ (.int .i64 (s.loops : Int))).setCell ⟨bp, 7, none⟩ (.int .i64 (s.alive : Int))) o bp T sl { s4.nxt with alive := s.alive, loops := s.loops }) := G7
  have HS7 : Hid (Stp (fun l => l = 1043) w4 o ((w5.setCell ⟨bp, 8, none⟩ (.int .i64 (s.loops : Int))).setCell ⟨bp, 7, none⟩ (.int .i64 (s.alive : Int))) o) := a1.trans (S6.trans S7)
  have hb1 := a3.r.cells.1
  obtain ⟨c7, c8, _, z⟩ := a3.r.cells2
  have z7 := z 7
  have z8 := z 8
  rw [show s4.nxt.alive = s4.alive from rfl, ha4] at c7
  rw [show s4.nxt.loops = s4.loops from rfl, hl4] at c8
  have d1 : ((s.loops + 1 : Nat) : Int) = (s.loops : Int) + 1 := by simp
  have d2 : ((s.alive + x : Nat) : Int) = (s.alive : Int) + x := by simp
  rw [d1] at c8
  rw [d2] at c7
  have d3 : (s.loops : Int) + 1 - 1 = (s.loops : Int) := by omega
  have d4 : (s.alive : Int) + x - x = (s.alive : Int) := by omega
  clear a1 a2 a3 G6 S6 G7 S7 HE4 z d1 d2
  go_wp2_with fail
  go_ret2
  have ow := HG.out.r.ow
  refine ⟨HS3.out.trans (HS4.out.trans HS7.out), .inr ⟨_, _, _, _, _, ms, m, HE5.out, rfl, HX4.out.stp HS3.out.fr.size HS7.out ow HG7.out.r rfl (by rw [HN3.out]) (HF0.out _ _ HE5.out)⟩⟩
end
end Go.Proofs.Qxb6500574aGreatDoor
