/-
  THE WALK of the parser layer: the parser: branch.
-/
import Derived.Test.Qxb6500574aGreatDoorWPa16
namespace Go.Proofs.Qxb6500574aGreatDoor
open Go Go.RowKit
set_option linter.unusedVariables false
set_option linter.unusedSimpArgs false
open Go.Lib
section
set_option maxRecDepth 100000
set_option maxHeartbeats 2000000
variable {w : World} {o : Nat → Nat} {bp : Nat} {sl : Sl} {T : List Tok} {s : PSt} {n room : Nat}
theorem room_pos (tk : TOk T) (k : SOk s) {x : List Nat} {r : List Nat × PSt} (hr : room ≤ 12) (h : parN T n 0 room x s = .inr r) : 1 ≤ room := by
  cases n with
  | zero => cases h
  | succ m =>
    have h' : PBd (parN T m 2 room [] s) (fun v s => parN T m 1 room [x.getD 0 0, v.getD 0 0] s) = .inr r := by
      rw [← h]
      conv => rhs; unfold parN
      simp (config := {decide := true}) only [if_true]
    cases h2 : parN T m 2 room [] s with
    | inl e => rw [h2] at h'; cases h'
    | inr y => exact ((PA.all tk m).p2 room [] s y k h2 hr).1
def br8 (T : List Tok) (n room p : Nat) (v u : List Nat) (s : PSt) : PR := if (curT T s).k = 8 then PBd (parN T n 13 (room - 1) [] s) fun z s => okP s ⟨6, v.getD 0 0, u.getD 0 0, z.getD 0 0, 0, 0, [], p⟩ else if (curT T s).k = 7 then PBd (parN T n 9 (room - 1) [] s.nxt) fun z s => expectP T s 9 fun s => okP s ⟨6, v.getD 0 0, u.getD 0 0, z.getD 0 0, 0, 0, [], p⟩ else expectP T s 9 fun s => okP s ⟨6, v.getD 0 0, u.getD 0 0, 0, 0, 0, [], p⟩
theorem par13 : parN T (n + 1) 13 room [] s = PBd (parN T n 0 (room - 1) [1] s.nxt) fun v s1 => expectP T s1 19 fun s1 => PBd (parN T n 9 (room - 1) [] s1) fun u s2 => br8 T n room (curT T s).p v u s2 := by
  conv => lhs; unfold parN
  simp (config := {decide := true}) only [if_true, if_false]
  rfl
theorem branch_any (C : PCs T n) (g : PGd w o bp T sl s) (r1 : 1 ≤ room) (hr : s.loops + room ≤ 12) (hk : (curT T s).k = 13 ∨ (curT T s).k = 8) (hx : parN T (n + 1) 13 room [] s ≠ x99) : Calls Tryz.prog 157 #[.pointer (some ⟨bp, 0, none⟩), .int .i64 (room : Nat)] w (ExQ w o bp T sl s (parN T (n + 1) 13 room [] s)) := by
  have E := @par13 T s n room
  obtain ⟨R, HR⟩ : ∃ R, Hid (parN T (n + 1) 13 room [] s = R) := ⟨_, rfl⟩
  have HF0 : Hid (∀ v s', R = .inr (v, s') → EF s s' (v.getD 0 0)) := fun v s' h => EF.stp g.k ((PA.all g.g.tok (n + 1)).p13 room [] s (v, s') g.k (HR.out.trans h) r1 (by omega)).1
  rw [HR.out] at hx E ⊢
  obtain ⟨hb, c2, c3, _, _, _⟩ := g.r.cells
  have HG : Hid (PGd w o bp T sl s) := g
  have HC : Hid (PCs T n) := C
  have HX : Hid (R ≠ x99) := hx
  have hrm : ((room - 1 : Nat) : Int) = (room : Int) - 1 := by omega
  have hr12 : room ≤ 12 := by omega
  have HE : Hid (R = _) := E
  have HNXT : Hid (∀ ob, Calls Tryz.prog 155 #[.pointer (some ⟨bp, 0, none⟩)] (w.alloc ob) fun e w' => e = .returned (.tuple #[]) ∧ Stp (fun l => l = 1043) (w.alloc ob) o w' o ∧ PGd w' o bp T sl s.nxt) := fun ob => (g.alloc ob).nextC (by omega) (by omega)
  have hx9 : parN T n 0 (room - 1) [1] s.nxt ≠ x99 := PB_ne (by rw [← HE.out]; exact HX.out)
  have EX : Hid (∀ w1, PGd w1 o bp T sl s.nxt → Calls Tryz.prog 159 #[.pointer (some ⟨bp, 0, none⟩), .int .i64 ((room : Int) - 1), .int .i64 1] w1 (ExQ w1 o bp T sl s.nxt (parN T n 0 (room - 1) [1] s.nxt))) := fun w1 g1 => by
    have := C.c0 (x := 1) g1 (room := room - 1) (by omega) (by omega) (by omega) hx9
    rw [hrm] at this
    exact this
  have BLK : Hid (∀ w1 s1, PGd w1 o bp T sl s1 → s1.loops = s.loops → parN T n 9 (room - 1) [] s1 ≠ x99 → Calls Tryz.prog 61 #[.pointer (some ⟨bp, 0, none⟩), .int .i64 ((room : Int) - 1)] w1 (LsQ w1 o bp T sl s1 (parN T n 9 (room - 1) [] s1))) := fun w1 s1 g1 hl h1 => by
    have := C.c9 g1 (room := room - 1) (by omega) h1
    rw [hrm] at this
    exact this
  have hnew := g.r.new
  clear g C hx HR E hx9
  obtain ⟨p, HP⟩ : ∃ p, Hid ((curT T s).p = p) := ⟨_, rfl⟩
  rw [HP.out] at HE c3
  clear hk
  go_enter Tryz.func157, Tryz.ntmps157
  go_wp2_with fail
  refine (HNXT.out _).mono ?_
  rintro e1 w1 ⟨rfl, q1, q2⟩
  obtain ⟨w0, HW0⟩ : ∃ w0, Hid (w.alloc (.cells #[.int .i64 p, .nilIface, .slice none 0 0, .slice none 0 0] 367) = w0) := ⟨_, rfl⟩
  have hz0 : w0.heap.size = w.heap.size + 1 := by rw [← HW0.out]; simp
  have HS0 : Hid (Stp (fun l => l = 1043) w o w0 o) := by
    show Stp _ _ _ _ _
    rw [← HW0.out]
    exact (Stp.refl _ _ _).alloc _
  have hH0 : Has w0 w.heap.size #[.int .i64 p, .nilIface, .slice none 0 0, .slice none 0 0] 367 := by
    rw [← HW0.out]
    exact Has.new _ _ _
  rw [HW0.out] at q1
  have HI1 : Hid (Has w1 w.heap.size #[.int .i64 p, .nilIface, .slice none 0 0, .slice none 0 0] 367) := q1.has hH0 (by rw [hnew]; omega)
  have HS1 : Hid (Stp (fun l => l = 1043) w0 o w1 o) := q1
  have HG1 : Hid (PGd w1 o bp T sl s.nxt) := q2
  have OW0 : Hid (Ow w0 o) := HS0.out.hi HG.out.r.ow
  have HA1 : Hid (Acc w0 w1 s s.nxt [] [] []) := (Acc.nil w0 HG.out.k).stp q1 OW0.out rfl
  clear q1 q2 HNXT hH0
  go_wp2_with fail
  refine (EX.out _ HG1.out).mono ?_
  rintro e2 w2 ⟨q5, q6⟩
  have HI2 : Hid (Has w2 w.heap.size #[.int .i64 p, .nilIface, .slice none 0 0, .slice none 0 0] 367) := q5.has HI1.out (by rw [hnew]; omega)
  have i1 := HI2.out.cell 1
  have iz := HI2.out.frozen 1
  have il := HI2.out.lt
  simp only [List.getElem?_toArray, List.getElem?_cons_succ, List.getElem?_cons_zero] at i1
  have HS2 : Hid (Stp (fun l => l = 1043) w1 o w2 o) := q5
  clear q5 HI1
  rcases q6 with ⟨y, hy, rfl, hpe⟩ | ⟨v, s5, t5, b5, hy, rfl, Y⟩
  · have HPE : Hid (PErr (w2.setCell ⟨w.heap.size, 1, none⟩ .nilIface) o bp y.1 y.2) := hpe.put hnew
    have HY : Hid (R = .inl y) := by
      show R = _
      rw [HE.out, hy]; rfl
    clear hpe hy
    go_wp2_with fail
    go_ret
    exact ExQ.bad ((HS0.out.trans (HS1.out.trans HS2.out)).own (p := ⟨w.heap.size, 1, none⟩) (Nat.le_refl _) _) HY.out HPE.out
  obtain ⟨V, HV⟩ : ∃ V, Hid (Value.iface t5 (.pointer (some ⟨b5, 0, none⟩)) = V) := ⟨_, rfl⟩
  have HE2 : Hid (R = expectP T s5 19 fun s1 => PBd (parN T n 9 (room - 1) [] s1) fun u s2 => br8 T n room p v u s2) := by
    show R = _
    rw [HE.out, hy]; rfl
  have HRM : Hid (1 ≤ room - 1) := room_pos HG.out.g.tok HG1.out.k (by omega) hy
  have hA2 := (HA1.out.tree Y HS2.out OW0.out).put (b := w.heap.size) (i := 1) (u := .iface t5 (.pointer (some ⟨b5, 0, none⟩))) (by omega)
  have HA3 : Hid (Acc w0 (w2.setCell ⟨w.heap.size, 1, none⟩ (.iface t5 (.pointer (some ⟨b5, 0, none⟩)))) s s5 [(s.nodes.length - 1, v.getD 0 0, .iface t5 (.pointer (some ⟨b5, 0, none⟩)))] [] []) := hA2
  have HG3 : Hid (PGd (w2.setCell ⟨w.heap.size, 1, none⟩ (.iface t5 (.pointer (some ⟨b5, 0, none⟩)))) o bp T sl s5) := (HG1.out.st HS2.out Y.r Y.f.ok).put hnew
  have HI3 : Hid (Has (w2.setCell ⟨w.heap.size, 1, none⟩ (.iface t5 (.pointer (some ⟨b5, 0, none⟩)))) w.heap.size #[.int .i64 p, .iface t5 (.pointer (some ⟨b5, 0, none⟩)), .slice none 0 0, .slice none 0 0] 367) := HI2.out.put 1 _
  have HS3 : Hid (Stp (fun l => l = 1043) w o (w2.setCell ⟨w.heap.size, 1, none⟩ (.iface t5 (.pointer (some ⟨b5, 0, none⟩)))) o) := (HS0.out.trans (HS1.out.trans HS2.out)).own (p := ⟨w.heap.size, 1, none⟩) (Nat.le_refl _) _
  have HVE : Hid (v.getD 0 0 + 1 = s5.nodes.length ∧ s5.loops = s.loops) := ⟨Y.f.ve, Y.f.kp.lp⟩
  clear hy Y hA2 HE HI2 HA1
  go_wp2_with fail
  refine (HG3.out.expectC 19 (by decide) (by decide)).mono ?_
  rintro e3 w3 ⟨a1, ⟨y, rfl, a2, a3⟩ | ⟨rfl, a2, a3⟩⟩
  · have HS4 : Hid (Stp (fun l => l = 1043) w o w3 o) := HS3.out.trans a1
    have HY : Hid (R = .inl y) := by
      show R = _
      rw [HE2.out, a2]
    have HPE : Hid (PErr w3 o bp y.1 y.2) := a3
    clear a1 a2 a3
    go_wp2_with fail
    go_ret
    exact ExQ.bad HS4.out HY.out HPE.out
  have HE3 : Hid (R = PBd (parN T n 9 (room - 1) [] s5.nxt) fun u s2 => br8 T n room p v u s2) := by
    show R = _
    rw [HE2.out, a2]
  have HS4 : Hid (Stp (fun l => l = 1043) w o w3 o) := HS3.out.trans a1
  have HG4 : Hid (PGd w3 o bp T sl s5.nxt) := a3
  have HI4 : Hid (Has w3 w.heap.size #[.int .i64 p, .iface t5 (.pointer (some ⟨b5, 0, none⟩)), .slice none 0 0, .slice none 0 0] 367) := a1.has HI3.out (by rw [hnew]; omega)
  have HA4 : Hid (Acc w0 w3 s s5.nxt [(s.nodes.length - 1, v.getD 0 0, .iface t5 (.pointer (some ⟨b5, 0, none⟩)))] [] []) := HA3.out.stp a1 OW0.out rfl
  have BL : Hid (Calls Tryz.prog 61 #[.pointer (some ⟨bp, 0, none⟩), .int .i64 ((room : Int) - 1)] w3 (LsQ w3 o bp T sl s5.nxt (parN T n 9 (room - 1) [] s5.nxt))) := BLK.out w3 _ a3 HVE.out.2 (PB_ne (by rw [← HE3.out]; exact HX.out))
  clear a1 a2 a3 HE2 HA3 HI3 HG3
  go_wp2_with fail
  refine BL.out.mono ?_
  rintro e5 w5 ⟨q5, q6⟩
  have HI5 : Hid (Has w5 w.heap.size #[.int .i64 p, .iface t5 (.pointer (some ⟨b5, 0, none⟩)), .slice none 0 0, .slice none 0 0] 367) := q5.has HI4.out (by rw [hnew]; omega)
  have j2 := HI5.out.cell 2
  have jz := HI5.out.frozen 2
  have jl := HI5.out.lt
  simp only [List.getElem?_toArray, List.getElem?_cons_succ, List.getElem?_cons_zero] at j2
  have HS5 : Hid (Stp (fun l => l = 1043) w3 o w5 o) := q5
  clear q5 HI4 BL
  rcases q6 with ⟨y, hy, rfl, hpe⟩ | ⟨u, s6, sa, ln, cp, ms, m, hy, rfl, Z⟩
  · have HPE : Hid (PErr (w5.setCell ⟨w.heap.size, 2, none⟩ (.slice none 0 0)) o bp y.1 y.2) := hpe.put hnew
    have HY : Hid (R = .inl y) := by
      show R = _
      rw [HE3.out, hy]; rfl
    clear hpe hy
    go_wp2_with fail
    go_ret
    exact ExQ.bad ((HS4.out.trans HS5.out).own (p := ⟨w.heap.size, 2, none⟩) (Nat.le_refl _) _) HY.out HPE.out
  have HE5 : Hid (R = br8 T n room p v u s6) := by
    show R = _
    rw [HE3.out, hy]; rfl
  have hA5 := (HA4.out.list Z HS5.out OW0.out).put (b := w.heap.size) (i := 2) (u := .slice sa ln cp) (by omega)
  have HVZ : Hid (SlM ms (.slice sa ln cp) m ∧ s6.loops = s.loops ∧ s5.nodes.length ≤ s6.nodes.length) := ⟨Z.v, Z.f.kp.lp.trans HVE.out.2, Z.f.kp.le⟩
  have HG6 : Hid (PGd (w5.setCell ⟨w.heap.size, 2, none⟩ (.slice sa ln cp)) o bp T sl s6) := (HG4.out.st HS5.out Z.r Z.f.ok).put hnew
  have HI6 : Hid (Has (w5.setCell ⟨w.heap.size, 2, none⟩ (.slice sa ln cp)) w.heap.size #[.int .i64 p, .iface t5 (.pointer (some ⟨b5, 0, none⟩)), .slice sa ln cp, .slice none 0 0] 367) := HI5.out.put 2 _
  have HS6 : Hid (Stp (fun l => l = 1043) w o (w5.setCell ⟨w.heap.size, 2, none⟩ (.slice sa ln cp)) o) := (HS4.out.trans HS5.out).own (p := ⟨w.heap.size, 2, none⟩) (Nat.le_refl _) _
  rw [show s5.nxt.nodes.length - 1 = v.getD 0 0 by have := HVE.out.1; show s5.nodes.length - 1 = _; omega] at hA5
  have HA6 : Hid (Acc w0 (w5.setCell ⟨w.heap.size, 2, none⟩ (.slice sa ln cp)) s s6 ((s.nodes.length - 1, v.getD 0 0, .iface t5 (.pointer (some ⟨b5, 0, none⟩))) :: ms) m [(v.getD 0 0, s6.nodes.length - 1, u.getD 0 0, ms)]) := hA5
  have hb6 := Z.r.cells.1
  have hk6 := Z.r.cells.2.1
  have hne : bp ≠ w.heap.size := fun e => by
    have := HG.out.r.blk.lb
    rw [e, hnew] at this
    cases this
  have hne2 : w.heap.size ≠ bp := fun e => hne e.symm
  clear hy Z hA5 HE3 HI5 HA4
  have FIN : Hid (∀ W s7 z ns m' V, R = okP s7 ⟨6, v.getD 0 0, u.getD 0 0, z, 0, 0, [], p⟩ → PRep W o bp T sl s7 → Stp (fun l => l = 1043) w o W o → s6.nodes.length ≤ s7.nodes.length → SlM ns V m' → Has W w.heap.size #[.int .i64 p, .iface t5 (.pointer (some ⟨b5, 0, none⟩)), .slice sa ln cp, V] 367 → Acc w0 W s s7 ((s.nodes.length - 1, v.getD 0 0, .iface t5 (.pointer (some ⟨b5, 0, none⟩))) :: (ms ++ ns)) (m ++ m') [(v.getD 0 0, s6.nodes.length - 1, u.getD 0 0, ms), (s6.nodes.length - 1, s7.nodes.length - 1, z, ns)] → ExQ w o bp T sl s R (.returned (.iface 365 (.pointer (some ⟨w.heap.size, 0, none⟩)))) W) := by
    intro W s7 z ns m' V hR r hst hle hv hH hA
    refine ⟨hst, .inr ⟨_, _, _, _, hR, rfl, (hA.wide (w0 := w) (by omega)).fin3 r (HF0.out _ _ hR) rfl hH (Nat.le_refl _) ?_⟩⟩
    have sh := Shp.ifs (x := .iface t5 (.pointer (some ⟨b5, 0, none⟩))) (p := p) (b := w.heap.size) (lo := s.nodes.length - 1) (a := v.getD 0 0) (f := u.getD 0 0) (g := z) (h1 := s6.nodes.length - 1) (hi := s7.nodes.length - 1) HVZ.out.1 hv
    rw [show s7.nodes.length - 1 + 1 = s7.nodes.length by have := HVE.out.1; have := HVZ.out.2.2; omega] at sh
    exact sh
  by_cases k8 : (curT T s6).k = 8
  · have HE8 : Hid (R = PBd (parN T n 13 (room - 1) [] s6) fun z s => okP s ⟨6, v.getD 0 0, u.getD 0 0, z.getD 0 0, 0, 0, [], p⟩) := by
      show R = _
      rw [HE5.out]
      unfold br8
      rw [if_pos k8]
    have BR : Hid (∀ W, PGd W o bp T sl s6 → Calls Tryz.prog 157 #[.pointer (some ⟨bp, 0, none⟩), .int .i64 ((room : Int) - 1)] W (ExQ W o bp T sl s6 (parN T n 13 (room - 1) [] s6))) := fun W g => by
      have := HC.out.c13 g HRM.out (by rw [HVZ.out.2.1]; omega) (.inr k8) (PB_ne (by rw [← HE8.out]; exact HX.out))
      rw [hrm] at this
      exact this
    rw [k8] at hk6
    have HA13 : Hid (∀ z s', parN T n 13 (room - 1) [] s6 = .inr (z, s') → s'.alive = s6.alive) := fun z s' h => ((PA.all HG.out.g.tok n).p13 (room - 1) [] s6 (z, s') HG6.out.k h HRM.out (by omega)).2
    clear HE5 k8
    go_wp2_with fail
    refine (BR.out _ HG6.out).mono ?_
    rintro e7 w7 ⟨q5, q6⟩
    have HI7 : Hid (Has w7 w.heap.size #[.int .i64 p, .iface t5 (.pointer (some ⟨b5, 0, none⟩)), .slice sa ln cp, .slice none 0 0] 367) := q5.has HI6.out (by rw [hnew]; omega)
    have k3 := HI7.out.cell 3
    have kz := HI7.out.frozen 3
    have kl := HI7.out.lt
    simp only [List.getElem?_toArray, List.getElem?_cons_succ, List.getElem?_cons_zero] at k3
    have HS7 : Hid (Stp (fun l => l = 1043) (w5.setCell ⟨w.heap.size, 2, none⟩ (.slice sa ln cp)) o w7 o) := q5
    clear q5
    rcases q6 with ⟨y, hy, rfl, hpe⟩ | ⟨z, s7, t7, b7, hy, rfl, Y⟩
    · have HPE : Hid (PErr w7 o bp y.1 y.2) := hpe
      have HY : Hid (R = .inl y) := by
        show R = _
        rw [HE8.out, hy]; rfl
      clear hpe hy
      go_wp2_with fail
      go_ret
      exact ExQ.bad (HS6.out.trans HS7.out) HY.out HPE.out
    have HY : Hid (ExS (w5.setCell ⟨w.heap.size, 2, none⟩ (.slice sa ln cp)) o bp T sl s6 s7 (z.getD 0 0) w7 (.iface t7 (.pointer (some ⟨b7, 0, none⟩)))) := Y
    have HE9 : Hid (R = okP s7 ⟨6, v.getD 0 0, u.getD 0 0, z.getD 0 0, 0, 0, [], p⟩) := by
      show R = _
      rw [HE8.out, hy]; rfl
    have HAL : Hid (s7.alive = s6.alive) := HA13.out _ _ hy
    clear Y hy HE8
    go_wp2_with fail
    go_ret
    have ow := HG.out.r.ow
    have hz5 : (w5.setCell ⟨w.heap.size, 2, none⟩ (.slice sa ln cp)).heap.size = w5.heap.size := by simp
    have hz7 : (w7.setCell ⟨w.heap.size, 3, none⟩ (.slice (some ⟨w7.heap.size, 0, none⟩) 1 1)).heap.size = w7.heap.size := by simp
    have zz7 := HS7.out.fr.size
    have zz5 := HS5.out.fr.size
    have zz0 : w.heap.size < w5.heap.size := jl
    have Y2 := HY.out.put (i := 3) (u := .slice (some ⟨w7.heap.size, 0, none⟩) 1 1) hnew (by rw [hz5]; exact zz0)
    have X1 := LsS.one Y2 (by rw [hz7]; exact zz7) (HS6.out.hi ow) HAL.out
    rw [hz7] at X1
    have A1 := ((HA6.out.stp (s2 := s6) HS7.out OW0.out rfl).put (b := w.heap.size) (i := 3) (u := .slice (some ⟨w7.heap.size, 0, none⟩) 1 1) (by omega)).list2 X1 (by rw [hz5]; omega) ((Stp.refl _ _ _).alloc _) OW0.out
    have ve := HY.out.f.ve
    refine FIN.out _ s7 (z.getD 0 0) _ _ _ HE9.out X1.r (((HS6.out.trans HS7.out).own (p := ⟨w.heap.size, 3, none⟩) (Nat.le_refl _) _).alloc _) HY.out.f.kp.le X1.v ?_ A1
    exact (HI7.out.put 3 _).alloc _
  rw [show br8 T n room p v u s6 = if (curT T s6).k = 7 then PBd (parN T n 9 (room - 1) [] s6.nxt) fun z s => expectP T s 9 fun s => okP s ⟨6, v.getD 0 0, u.getD 0 0, z.getD 0 0, 0, 0, [], p⟩ else expectP T s6 9 fun s => okP s ⟨6, v.getD 0 0, u.getD 0 0, 0, 0, 0, [], p⟩ by unfold br8; rw [if_neg k8]] at HE5
  have e8 : (((curT T s6).k : Int) == 8) = false := by simp; omega
  clear k8
  go_wp2_with fail
  refine (HG6.out.acceptC 7 (by decide) (by decide)).mono ?_
  rintro e7 w7 ⟨a1, ⟨rfl, hk, a3⟩ | ⟨rfl, hk, a3⟩⟩
  · rw [if_neg hk] at HE5
    have HS7 : Hid (Stp (fun l => l = 1043) (w5.setCell ⟨w.heap.size, 2, none⟩ (.slice sa ln cp)) o w7 o) := a1
    have HG7 : Hid (PGd w7 o bp T sl s6) := a3
    clear a1 a3 hk
    go_wp2_with fail
    refine (HG7.out.expectC 9 (by decide) (by decide)).mono ?_
    rintro e8 w8 ⟨a1, ⟨y, rfl, a2, a3⟩ | ⟨rfl, a2, a3⟩⟩
    · have HS8 : Hid (Stp (fun l => l = 1043) w7 o w8 o) := a1
      have HY : Hid (R = .inl y) := by
        show R = _
        rw [HE5.out, a2]
      have HPE : Hid (PErr w8 o bp y.1 y.2) := a3
      clear a1 a2 a3
      go_wp2_with fail
      go_ret
      exact ExQ.bad (HS6.out.trans (HS7.out.trans HS8.out)) HY.out HPE.out
    have HS8 : Hid (Stp (fun l => l = 1043) w7 o w8 o) := a1
    have HG8 : Hid (PGd w8 o bp T sl s6.nxt) := a3
    have HE8 : Hid (R = okP s6.nxt ⟨6, v.getD 0 0, u.getD 0 0, 0, 0, 0, [], p⟩) := by
      show R = _
      rw [HE5.out, a2]
    clear a1 a2 a3 HE5
    go_wp2_with fail
    go_ret
    have hst := HS7.out.trans HS8.out
    have X1 := LsS.none HG8.out.r HG8.out.k
    have A1 := (HA6.out.stp (s2 := s6.nxt) hst OW0.out rfl).list X1 (Stp.refl _ _ _) OW0.out
    exact FIN.out _ s6.nxt 0 _ _ _ HE8.out HG8.out.r (HS6.out.trans hst) (Nat.le_refl _) X1.v (hst.has HI6.out (by rw [hnew]; omega)) A1
  · rw [if_pos hk] at HE5
    have HS7 : Hid (Stp (fun l => l = 1043) (w5.setCell ⟨w.heap.size, 2, none⟩ (.slice sa ln cp)) o w7 o) := a1
    have HG7 : Hid (PGd w7 o bp T sl s6.nxt) := a3
    have HI7 : Hid (Has w7 w.heap.size #[.int .i64 p, .iface t5 (.pointer (some ⟨b5, 0, none⟩)), .slice sa ln cp, .slice none 0 0] 367) := a1.has HI6.out (by rw [hnew]; omega)
    have BL : Hid (Calls Tryz.prog 61 #[.pointer (some ⟨bp, 0, none⟩), .int .i64 ((room : Int) - 1)] w7 (LsQ w7 o bp T sl s6.nxt (parN T n 9 (room - 1) [] s6.nxt))) := BLK.out w7 _ a3 HVZ.out.2.1 (PB_ne (by rw [← HE5.out]; exact HX.out))
    clear a1 a3 hk
    go_wp2_with fail
    refine BL.out.mono ?_
    rintro e8 w8 ⟨q5, q6⟩
    have HI8 : Hid (Has w8 w.heap.size #[.int .i64 p, .iface t5 (.pointer (some ⟨b5, 0, none⟩)), .slice sa ln cp, .slice none 0 0] 367) := q5.has HI7.out (by rw [hnew]; omega)
    have k3 := HI8.out.cell 3
    have kz := HI8.out.frozen 3
    have kl := HI8.out.lt
    simp only [List.getElem?_toArray, List.getElem?_cons_succ, List.getElem?_cons_zero] at k3
    have HS8 : Hid (Stp (fun l => l = 1043) w7 o w8 o) := q5
    clear q5 BL
    rcases q6 with ⟨y, hy, rfl, hpe⟩ | ⟨z, s8, sb, lm, cq, ns, m', hy, rfl, Z⟩
    · have HPE : Hid (PErr (w8.setCell ⟨w.heap.size, 3, none⟩ (.slice none 0 0)) o bp y.1 y.2) := hpe.put hnew
      have HY : Hid (R = .inl y) := by
        show R = _
        rw [HE5.out, hy]; rfl
      clear hpe hy
      go_wp2_with fail
      go_ret
      exact ExQ.bad ((HS6.out.trans (HS7.out.trans HS8.out)).own (p := ⟨w.heap.size, 3, none⟩) (Nat.le_refl _) _) HY.out HPE.out
    have HE8 : Hid (R = expectP T s8 9 fun s => okP s ⟨6, v.getD 0 0, u.getD 0 0, z.getD 0 0, 0, 0, [], p⟩) := by
      show R = _
      rw [HE5.out, hy]; rfl
    have HZ : Hid (LsS w7 o bp T sl s6.nxt s8 (z.getD 0 0) w8 (.slice sb lm cq) ns m') := Z
    have HG8 : Hid (PGd (w8.setCell ⟨w.heap.size, 3, none⟩ (.slice sb lm cq)) o bp T sl s8) := (HG7.out.st HS8.out Z.r Z.f.ok).put hnew
    clear Z hy HE5
    go_wp2_with fail
    refine (HG8.out.expectC 9 (by decide) (by decide)).mono ?_
    rintro e9 w9 ⟨a1, ⟨y, rfl, a2, a3⟩ | ⟨rfl, a2, a3⟩⟩
    · have HS9 : Hid (Stp (fun l => l = 1043) (w8.setCell ⟨w.heap.size, 3, none⟩ (.slice sb lm cq)) o w9 o) := a1
      have HY : Hid (R = .inl y) := by
        show R = _
        rw [HE8.out, a2]
      have HPE : Hid (PErr w9 o bp y.1 y.2) := a3
      clear a1 a2 a3
      go_wp2_with fail
      go_ret
      exact ExQ.bad (((HS6.out.trans (HS7.out.trans HS8.out)).own (p := ⟨w.heap.size, 3, none⟩) (Nat.le_refl _) _).trans HS9.out) HY.out HPE.out
    have HS9 : Hid (Stp (fun l => l = 1043) (w8.setCell ⟨w.heap.size, 3, none⟩ (.slice sb lm cq)) o w9 o) := a1
    have HG9 : Hid (PGd w9 o bp T sl s8.nxt) := a3
    have HE9 : Hid (R = okP s8.nxt ⟨6, v.getD 0 0, u.getD 0 0, z.getD 0 0, 0, 0, [], p⟩) := by
      show R = _
      rw [HE8.out, a2]
    clear a1 a2 a3 HE8
    go_wp2_with fail
    go_ret
    have zz0 : w.heap.size < w5.heap.size := jl
    have A1 := (((HA6.out.stp (s2 := s6.nxt) HS7.out OW0.out rfl).list HZ.out HS8.out OW0.out).put (b := w.heap.size) (i := 3) (u := .slice sb lm cq) (by omega)).stp (s2 := s8.nxt) HS9.out OW0.out rfl
    exact FIN.out _ s8.nxt (z.getD 0 0) _ _ _ HE9.out HG9.out.r (((HS6.out.trans (HS7.out.trans HS8.out)).own (p := ⟨w.heap.size, 3, none⟩) (Nat.le_refl _) _).trans HS9.out) HZ.out.f.kp.le HZ.out.v (HS9.out.has (HI8.out.put 3 _) (by rw [hnew]; omega)) A1
end
end Go.Proofs.Qxb6500574aGreatDoor
